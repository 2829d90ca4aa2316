/- Drawn texts and lists of texts. Conditions: as each theorem says. -/
import Derived.Test.YtbaekalebodhaaaDoorRows
import Derived.Test.YtbaekalebodhaaaDoorDraw0
import Derived.Test.YtbaekalebodhaaaDoorSplit
import Derived.Deep.CutRange
namespace Go.Proofs.YtbaekalebodhaaaDoor
set_option linter.unusedSimpArgs false
set_option linter.unusedVariables false
open Go.ChangeShapes Go.WideShapes Go.ChangeAt Go.RowKit

/-- What a draw of a text has done. -/
def DrawnS (xs : List ByteArray) (w0 w : World) (g : Nat) (A : Option Addr) (len cap n : Nat) (e : Ending) (w' : World) : Prop :=
  ∃ v : ByteArray, e = .returned (.string v) ∧ v ∈ xs ∧ w.grownBy w' (some g) ∧ Cur w0 w' g A len cap n
theorem CurS.alloc {w0 w : World} {g : Nat} {A : Option Addr} {len cap n : Nat} (h : Cur w0 w g A len cap n) (o : Obj) : Cur w0 (w.alloc o) g A len cap n := h.below (balloc (Below.refl _ _) o)
theorem CurS.grown {w0 w w' : World} {g : Nat} {A : Option Addr} {len cap n : Nat} (h : Cur w0 w g A len cap n) {r : Option Nat} (hg : w.grownBy w' r) (hr : some g ≠ r) (hlow : ∀ k, r = some k → w0.heap.size ≤ k) : Cur w0 w' g A len cap n := by
  obtain ⟨a, b, c, p, s, hp, hB⟩ := h
  exact ⟨a, Nat.lt_of_lt_of_le b hg.size, c.grown hg c.size hlow, p, s, hp, hB.grown hg hr⟩
theorem curS_new (w : World) (A : Option Addr) (len cap : Nat) : Cur w (w.alloc (.cells #[.slice A len cap, .int .i64 0, .int .u64 0] 43)) w.heap.size A len cap 0 :=
  ⟨Nat.le_refl _, by simp, balloc (Below.refl _ _) _, 0, 0, Nat.le_refl _, Blk.new _ _ _⟩
theorem spec_of (v : Value) (xs : List ByteArray) (B : Nat) (w0 w : World) (g : Nat) (A : Option Addr) (len cap n : Nat) (hv : Strs w B v xs) (hgB : g < B) (hx : 1 ≤ xs.length) (hx2 : xs.length ≤ 1000) (hc : Code w0 A len) (hn : n ≤ 900000) (h : Cur w0 w g A len cap n) :
    Calls Tryd.prog 30 #[.pointer (some ⟨g, 0, none⟩), v] w (DrawnS xs w0 w g A len cap (n + 2)) := by
  have HC := Lib.hid hc
  have H := Lib.hid h
  have HV := Lib.hid hv
  obtain ⟨a, c, rfl, _⟩ := hv.shape
  clear hc h hv
  go_enter Tryd.func30, Tryd.ntmps30
  go_wp2_with fail
  refine (spec_pick xs.length (by omega) (by omega) w0 _ g A len cap n HC.out hn H.out).mono ?_
  rintro e w1 ⟨i, rfl, hi0, hi1, hg1, hc1⟩
  obtain ⟨k, rfl⟩ : ∃ k : Nat, i = (k : Int) := ⟨i.toNat, by omega⟩
  have hk : k < xs.length := by omega
  have hv1 : Strs w1 B (.slice a xs.length c) xs := World.ownsRow.kept (v := .slice a xs.length c) (row := some g) HV.out hg1 (.inr (Ne.symm (own_ne HV.out hgB)))
  obtain ⟨a', c', he, ha'⟩ := hv1.shape
  obtain ⟨b, hA, _, hb, hcell, _⟩ := ha' k hk
  injection he with he1
  subst he1
  subst hA
  have hin : xs.getD k ⟨#[]⟩ ∈ xs := by simp [List.getD_eq_getElem?_getD, hk]
  have HIN := Lib.hid hin
  have HG1 := Lib.hid hg1
  have HC1 := Lib.hid hc1
  clear hg1 hc1 hv1 ha' hin HV
  generalize xs.getD k ⟨#[]⟩ = y at *
  go_wp2
  go_ret
  exact ⟨_, rfl, HIN.out, HG1.out, HC1.out⟩
def anys : List ByteArray := [⟨#[]⟩, ⟨#[97]⟩, ⟨#[97, 44, 98]⟩, ⟨#[115, 111, 109, 101, 32, 119, 111, 114, 100, 115]⟩, ⟨#[120, 35, 121]⟩, ⟨#[45, 49, 50]⟩, ⟨#[0, 255]⟩, ⟨#[44, 44]⟩, ⟨#[48]⟩]
theorem anys_size {x : ByteArray} (h : x ∈ anys) : x.size ≤ 20 := by
  simp only [anys, List.mem_cons, List.not_mem_nil, or_false] at h
  rcases h with rfl | rfl | rfl | rfl | rfl | rfl | rfl | rfl | rfl <;> decide
theorem spec_any1 (w0 w : World) (g : Nat) (A : Option Addr) (len cap n : Nat) (hc : Code w0 A len) (hn : n ≤ 800000) (h : Cur w0 w g A len cap n) :
    Calls Tryd.prog 31 #[.pointer (some ⟨g, 0, none⟩)] w (DrawnS anys w0 w g A len cap (n + 2)) := by
  have HC := Lib.hid hc
  have H := Lib.hid h
  clear hc h
  go_enter Tryd.func31, Tryd.ntmps31
  go_wp2_with fail
  have hb := (Below.refl w.heap.size w).alloc (Nat.le_refl _) (.cells (anys.map Value.string).toArray 9)
  refine (spec_of _ anys w.heap.size w0 _ g A len cap n (strs_lit w anys _ 9 rfl rfl (by decide)) H.out.2.1 (by decide) (by decide) HC.out (by omega) (H.out.below hb)).mono ?_
  rintro e w1 ⟨v, rfl, hv, hg1, hc1⟩
  have HG := Lib.hid (grownT' (grown_of_below hb (some g)) hg1)
  have HC1 := Lib.hid hc1
  have HV := Lib.hid hv
  clear hb hv hg1 hc1
  go_wp2
  go_ret
  exact ⟨_, rfl, HV.out, HG.out, HC1.out⟩
/-- Two short texts. -/
def DrawnSS (w : World) (e : Ending) (w' : World) : Prop := ∃ x y : ByteArray, e = .returned (.tuple #[.string x, .string y]) ∧ x.size ≤ 20 ∧ y.size ≤ 20 ∧ Below w.heap.size w w'
def seps1 : List ByteArray := [⟨#[44]⟩, ⟨#[44]⟩, ⟨#[32]⟩, ⟨#[]⟩, ⟨#[44, 44]⟩]
theorem seps1_size {x : ByteArray} (h : x ∈ seps1) : x.size ≤ 20 := by
  simp only [seps1, List.mem_cons, List.not_mem_nil, or_false] at h
  rcases h with rfl | rfl | rfl | rfl | rfl <;> decide
end Go.Proofs.YtbaekalebodhaaaDoor
