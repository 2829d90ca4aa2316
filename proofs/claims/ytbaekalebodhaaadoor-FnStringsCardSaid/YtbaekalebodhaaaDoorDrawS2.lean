/- A drawn list of texts; a split that is joined again. Conditions: as each theorem says. -/
import Derived.Test.YtbaekalebodhaaaDoorRows
import Derived.Test.YtbaekalebodhaaaDoorDrawS
import Derived.Test.YtbaekalebodhaaaDoorJoin2
import Derived.OwnWalk
import Derived.Laws.BytesArg
namespace Go.Proofs.YtbaekalebodhaaaDoor
set_option linter.unusedSimpArgs false
set_option linter.unusedVariables false
open Go.ChangeShapes Go.WideShapes Go.ChangeAt Go.RowKit

theorem sumS_app (xs : List ByteArray) (y : ByteArray) : sumS (xs ++ [y]) = sumS xs + y.size := by
  induction xs with
  | nil => simp [sumS]
  | cons x xs ih => simp only [List.cons_append, sumS, ih]; omega
theorem byte_info : (Tryd.prog.info? 5).map (fun i => (i.zero, i.size, i.bytes)) = some (some (.int .u8 0), 1, 1) := by kernel_rfl
/-- A short list of texts, and a sign. -/
def DrawnJ (w : World) (e : Ending) (w' : World) : Prop := ∃ v xs y, e = .returned (.tuple #[v, .string y]) ∧ Strs w' w.heap.size v xs ∧ xs.length + sumS xs ≤ 1048576 ∧ y.size ≤ 20 ∧ Below w.heap.size w w'
def seps2 : List ByteArray := [⟨#[44]⟩, ⟨#[59]⟩, ⟨#[59]⟩, ⟨#[]⟩, ⟨#[97, 98]⟩]
theorem seps2_size {x : ByteArray} (h : x ∈ seps2) : x.size ≤ 20 := by
  simp only [seps2, List.mem_cons, List.not_mem_nil, or_false] at h
  rcases h with rfl | rfl | rfl | rfl | rfl <;> decide
theorem nums_size (n : Nat) : (strOfNums (List.replicate n 0)).size = n := by simp [strOfNums, ByteArray.size]
/-- The list so far, the cursor in block g. -/
def JS (w0 w : World) (g : Nat) (A : Option Addr) (len cap n : Nat) (v : Value) (xs : List ByteArray) (W : World) : Prop := Strs W w.heap.size v xs ∧ g < w.heap.size ∧ Cur w0 W g A len cap n ∧ w.heap.size ≤ W.heap.size ∧ w0.heap.size ≤ w.heap.size
section
variable {w0 w W W' : World} {g : Nat} {A : Option Addr} {len cap n n' : Nat} {v v' : Value} {xs : List ByteArray} {y : ByteArray}
theorem JS.call (h : JS w0 w g A len cap n v xs W) (hg : W.grownBy W' (some g)) (hc : Cur w0 W' g A len cap n') : JS w0 w g A len cap n' v xs W' :=
  ⟨World.ownsRow.kept (row := some g) h.1 hg (.inr (Ne.symm (own_ne h.1 h.2.1))), h.2.1, hc, Nat.le_trans h.2.2.2.1 hg.size, h.2.2.2.2⟩
theorem JS.app (h : JS w0 w g A len cap n v xs W) (hi : Strs W' w.heap.size v' (xs ++ [y])) (hg : W.grownBy W' v.ownBlock) : JS w0 w g A len cap n v' (xs ++ [y]) W' :=
  ⟨hi, h.2.1, CurS.grown h.2.2.1 hg (own_ne h.1 h.2.1) (fun k hk => Nat.le_trans h.2.2.2.2 (h.1.lt k hk).1), Nat.le_trans h.2.2.2.1 hg.size, h.2.2.2.2⟩
theorem JS.more (h : JS w0 w g A len cap n v xs W) (hn : n ≤ n') : JS w0 w g A len cap n' v xs W := ⟨h.1, h.2.1, h.2.2.1.more hn, h.2.2.2.1, h.2.2.2.2⟩
theorem JS.below (h : JS w0 w g A len cap n v xs W) (hb : Below W.heap.size W W') : JS w0 w g A len cap n v xs W' := ⟨h.1.below hb, h.2.1, h.2.2.1.below hb, Nat.le_trans h.2.2.2.1 hb.size, h.2.2.2.2⟩
end
/-! ### a split is joined again -/
theorem join_snoc (xs : List (List UInt8)) (y sep : List UInt8) : Lib.join (xs ++ [y]) sep = xs.flatMap (· ++ sep) ++ y := by
  induction xs with
  | nil => simp [Lib.join_one]
  | cons x r ih =>
    rw [List.cons_append, Lib.join_cons]
    cases hr : r ++ [y] with
    | nil => simp at hr
    | cons z t =>
      rw [hr, Lib.join_cons] at ih
      have e : Lib.joinTail sep (z :: t) = sep ++ (z ++ Lib.joinTail sep t) := by simp [Lib.joinTail, List.append_assoc]
      rw [e, ih]
      simp [List.append_assoc]
structure SpInv (s : ByteArray) (b : UInt8) (k : Nat) (o : List ByteArray) (f : Nat) : Prop where
  le : f ≤ k
  parts : ∀ x ∈ o, stands x b = false
  rest : ((s.data.toList.drop f).take (k - f)).any (· == b) = false
  bytes : o.flatMap (fun x => x.data.toList ++ [b]) = s.data.toList.take f
theorem spInv (s : ByteArray) (b : UInt8) (k : Nat) (h : k ≤ s.size) : SpInv s b k (spOut s b k).1 (spOut s b k).2 := by
  induction k with
  | zero => exact ⟨Nat.le_refl _, (fun x hx => by cases hx), by simp [spOut], by simp [spOut]⟩
  | succ k ih =>
    have I := ih (by omega)
    have hl : k < s.data.toList.length := by simp; omega
    have hd : s.data.toList.getD k 0 = s.data.toList[k] := by rw [List.getD_eq_getElem?_getD, List.getElem?_eq_getElem hl]; rfl
    have hle := I.le
    unfold spOut
    by_cases he : s.data.toList.getD k 0 = b
    · rw [if_pos he]
      refine ⟨Nat.le_refl _, fun x hx => ?_, by simp, ?_⟩
      · rw [List.mem_append] at hx
        rcases hx with hx | hx
        · exact I.parts x hx
        · simp at hx
          subst hx
          unfold stands
          rw [Lib.extract_data]
          exact I.rest
      · simp only [List.flatMap_append, List.flatMap_cons, List.flatMap_nil, List.append_nil]
        rw [I.bytes, Lib.extract_data, List.take_succ_eq_append_getElem hl, ← hd, he, ← List.append_assoc]
        congr 1
        rw [← List.take_add]
        congr 1
        omega
    · rw [if_neg he]
      refine ⟨by omega, I.parts, ?_, I.bytes⟩
      have e : k + 1 - (spOut s b k).2 = (k - (spOut s b k).2) + 1 := by omega
      have hlt : k - (spOut s b k).2 < (s.data.toList.drop (spOut s b k).2).length := by rw [List.length_drop]; omega
      rw [e, List.take_succ_eq_append_getElem hlt, List.any_append, I.rest, List.getElem_drop]
      simp only [Bool.false_or, List.any_cons, List.any_nil, Bool.or_false]
      have e2 : (spOut s b k).2 + (k - (spOut s b k).2) = k := by omega
      simp only [e2]
      rw [← hd]
      simpa using he
theorem split_parts (s : ByteArray) (b : UInt8) : ∀ x ∈ splitS s b, stands x b = false := by
  have I := spInv s b s.size (Nat.le_refl _)
  intro x hx
  unfold splitS at hx
  rw [List.mem_append] at hx
  rcases hx with hx | hx
  · exact I.parts x hx
  · simp at hx
    subst hx
    unfold stands
    rw [Lib.extract_data]
    exact I.rest
theorem split_join (s sep : ByteArray) (b : UInt8) (h : sep.data.toList = [b]) : jn (splitS s b) sep = s := by
  have I := spInv s b s.size (Nat.le_refl _)
  apply ba_ext
  rw [jn_toList, h]
  unfold splitS
  have e : ∀ f, (s.data.toList.drop f).take (s.size - f) = s.data.toList.drop f := fun f => List.take_of_length_le (by simp)
  rw [List.map_append, List.map_cons, List.map_nil, join_snoc, List.flatMap_map, I.bytes, Lib.extract_data, e]
  exact List.take_append_drop _ _
theorem sep_one {sep : ByteArray} (h : sep.size = 1) : sep.data.toList = [sep.data.toList.getD 0 0] := by
  have hl : sep.data.toList.length = 1 := by simpa using h
  match hs : sep.data.toList, hl with
  | [x], _ => rfl
theorem okJ_split {s sep : ByteArray} (h1 : sep.size = 1) (hs : s.size ≤ 4000) : okJ (splitS s (sep.data.toList.getD 0 0)) sep = true := by
  have hp : 0 < (splitS s (sep.data.toList.getD 0 0)).length := by unfold splitS; simp
  refine okJ_all h1 hp (fun x hx => split_parts s _ x (List.mem_of_mem_take hx)) ?_
  have q := jn_size (splitS s (sep.data.toList.getD 0 0)) sep h1 _ (Nat.le_refl _)
  rw [List.take_length, split_join s sep _ (sep_one h1)] at q
  omega
theorem less_asym (a b : List UInt8) : (Op.bytesLess a b && Op.bytesLess b a) = false := by
  induction a generalizing b with
  | nil => cases b <;> rfl
  | cons x a ih =>
    cases b with
    | nil => rfl
    | cons y b =>
      have := ih b
      unfold Op.bytesLess
      by_cases h1 : x < y
      · have h2 : ¬ y < x := fun h => by rw [UInt8.lt_iff_toNat_lt] at h h1; omega
        have h3 : (y == x) = false := by
          rw [beq_eq_false_iff_ne]
          rintro rfl
          rw [UInt8.lt_iff_toNat_lt] at h1
          omega
        simp [h1, h2, h3]
      · by_cases h2 : y < x
        · have h3 : (x == y) = false := by
            rw [beq_eq_false_iff_ne]
            rintro rfl
            rw [UInt8.lt_iff_toNat_lt] at h2
            omega
          simp [h1, h3]
        · simp only [h1, h2, decide_false, Bool.false_or]
          cases h3 : (x == y)
          · simp
          · rw [beq_iff_eq] at h3
            subst h3
            simpa using this
end Go.Proofs.YtbaekalebodhaaaDoor
