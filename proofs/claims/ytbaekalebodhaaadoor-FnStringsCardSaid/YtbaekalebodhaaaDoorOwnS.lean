/- Slices of strings of the call's own, and the laws' helpers over them. Conditions: as each theorem says. -/
import Derived.Test.YtbaekalebodhaaaDoorRows
import Derived.Test.YtbaekalebodhaaaDoorOwn
import Derived.Test.YtbaekalebodhaaaDoorGroup
import Derived.Test.YtbaekalebodhaaaDoorMild
import Derived.Laws.BytesArg
namespace Go.Proofs.YtbaekalebodhaaaDoor
set_option linter.unusedSimpArgs false
set_option linter.unusedVariables false
open Go.ChangeShapes Go.WideShapes Go.ChangeAt Go.RowKit

def Strs (w : World) (B : Nat) (v : Value) (xs : List ByteArray) : Prop := w.ownsRow B 9 1 v xs.length (xs.map Value.string)
section
variable {w w' : World} {B : Nat} {v : Value} {xs : List ByteArray}
theorem Strs.below (h : Strs w B v xs) (hb : Below w.heap.size w w') : Strs w' B v xs := own_below h hb
theorem Strs.base {B' : Nat} (h : Strs w B v xs) (hB : B' ≤ B) : Strs w B' v xs := own_base h hB
theorem Strs.kept {v1 : Value} (h : Strs w B v xs) (hg : w.grownBy w' v1.ownBlock) (hne : v.ownBlock = none ∨ v.ownBlock ≠ v1.ownBlock) : Strs w' B v xs := World.ownsRow.kept h hg hne
theorem Strs.drewN (h : Strs w B v xs) (n : Nat) : Strs (w.drewN n) B v xs := h
theorem Strs.nil (w : World) (B : Nat) : Strs w B (.slice none 0 0) [] := World.ownsRow_nil _ _ _ _
theorem Strs.len (h : Strs w B v xs) : xs.length ≤ maxLen := by
  rcases h.2 with ⟨_, h0⟩ | ⟨g, cap, cur, _, _, _, hn, hm, _⟩
  · omega
  · omega
theorem Strs.shape (h : Strs w B v xs) : ∃ A c, v = .slice A xs.length c ∧ ∀ k, k < xs.length → ∃ g, A = some ⟨g, 0, none⟩ ∧ B ≤ g ∧ g < w.heap.size ∧ w.cell? ⟨g, k, none⟩ = some (.string (xs.getD k ⟨#[]⟩)) ∧ w.frozen? ⟨g, k, none⟩ = false := by
  have h' := h
  unfold Strs at h'
  rcases h.2 with ⟨rfl, h0⟩ | ⟨g, cap, cur, rfl, hB, hg, _⟩
  · exact ⟨none, 0, by rw [h0], fun k hk => by omega⟩
  · refine ⟨some ⟨g, 0, none⟩, cap, rfl, fun k hk => ⟨g, rfl, hB, (Array.getElem?_eq_some_iff.1 hg).1, ?_, h'.frozenAt k⟩⟩
    rw [h'.cellAt k (by omega)]
    simp [List.getD_eq_getElem?_getD, hk]
theorem strs_lit (w : World) (xs : List ByteArray) (cs : Array Value) (n : Nat) (hn : n = xs.length) (hcs : cs = (xs.map Value.string).toArray) (hm : xs.length ≤ maxLen) :
    Strs (w.alloc (.cells cs 9)) w.heap.size (.slice (some ⟨w.heap.size, 0, none⟩) n n) xs := by
  subst hn hcs
  have := World.ownsRow_lit (base := w.heap.size) (e := 9) (size := 1) w (xs.map Value.string).toArray xs.length (Nat.le_refl _) hm (by simp)
  simpa [Strs] using this
end
/-- What a function of the program that returns a slice of integers and a bool has done. -/
def RetStrs (ok : Bool) (xs : List ByteArray) (w : World) (e : Ending) (w' : World) : Prop := ∃ v, e = .returned (.tuple #[v, .bool ok]) ∧ Strs w' w.heap.size v xs ∧ Below w.heap.size w w'
/-- .. that returns a slice of integers alone. -/
def RetStrs1 (xs : List ByteArray) (w : World) (e : Ending) (w' : World) : Prop := ∃ v, e = .returned v ∧ Strs w' w.heap.size v xs ∧ Below w.heap.size w w'

def attV (k : Int) : List ByteArray := if inB 1 k 8 then att k else []
theorem att_len' (k : Int) : (att k).length ≤ 2 := by unfold att; repeat (first | split | decide)
theorem attV_len (k : Int) : (attV k).length ≤ 1048576 := by
  have := att_len' k
  unfold attV
  split <;> simp
  omega
/-- The digits of a number, ahead of a text. -/
def mtl (n : Nat) (acc : List UInt8) : List UInt8 := if h : n = 0 then acc else mtl (n / 10) ((48 + UInt8.ofNat (n % 10)) :: acc)
termination_by n
decreasing_by exact Nat.div_lt_self (Nat.pos_of_ne_zero h) (by omega)
theorem mtl_zero (acc : List UInt8) : mtl 0 acc = acc := by rw [mtl]; simp
theorem mtl_pos (n : Nat) (acc : List UInt8) (h : 0 < n) : mtl n acc = mtl (n / 10) ((48 + UInt8.ofNat (n % 10)) :: acc) := by rw [mtl]; simp [Nat.ne_of_gt h]
def mtext (k : Nat) : ByteArray := if k = 0 then ⟨#[109, 48]⟩ else ⟨#[109]⟩ ++ ⟨(mtl k []).toArray⟩
def smarks (k n : Nat) : List ByteArray := (List.range n).map fun i => mtext (k + i)
theorem smarks_length (k n : Nat) : (smarks k n).length = n := by simp [smarks]
theorem smarks_getD (k n i : Nat) (h : i < n) : (smarks k n).getD i ⟨#[]⟩ = mtext (k + i) := by simp [smarks, List.getD_eq_getElem?_getD, h]
theorem smarks_set (k : Nat) (xs : List ByteArray) (j : Nat) (h : j < xs.length) :
    ((smarks k j ++ xs.drop j).map Value.string).set j (.string (mtext (k + j))) = (smarks k (j + 1) ++ xs.drop (j + 1)).map Value.string := by
  rw [List.drop_eq_getElem_cons h]
  have e : smarks k (j + 1) = smarks k j ++ [mtext (k + j)] := by simp [smarks, List.range_succ]
  rw [e]
  simp only [List.map_append, List.map_cons, List.append_assoc, List.cons_append, List.nil_append]
  rw [List.set_append_right _ _ (by simp [smarks])]
  simp [smarks]
theorem grown_trans {w w1 w2 : World} {r : Option Nat} (h : w.grownBy w1 r) (h' : w1.grownBy w2 r) : w.grownBy w2 r :=
  ⟨h'.os.trans h.os, h'.tape.trans h.tape, h'.output.trans h.output, Nat.le_trans h.size h'.size, fun b hb hne => (h'.block b (Nat.lt_of_lt_of_le hb h.size) hne).trans (h.block b hb hne)⟩
end Go.Proofs.YtbaekalebodhaaaDoor
