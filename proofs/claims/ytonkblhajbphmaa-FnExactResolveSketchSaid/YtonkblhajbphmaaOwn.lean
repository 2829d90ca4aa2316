/- Slices of integers of the call's own, and the laws' helpers over them. Conditions: as each theorem says. -/
import Derived.Test.YtonkblhajbphmaaRows
import Derived.Test.YtonkblhajbphmaaPlain
import Derived.Deep.QuietTactic
import Derived.BigQuiet
import Derived.OwnWalk
namespace Go.Proofs.Ytonkblhajbphmaa
set_option linter.unusedSimpArgs false
set_option linter.unusedVariables false
open Go.ChangeShapes Go.WideShapes Go.ChangeAt Go.RowKit

theorem below_drewN {B : Nat} {a w : World} (h : Below B a w) (n : Nat) : Below B a (w.drewN n) := ⟨h.os, h.tape, h.output, h.size, h.block⟩
theorem grown_of_below {w w' : World} (hb : Below w.heap.size w w') (row : Option Nat) : w.grownBy w' row := ⟨hb.os, hb.tape, hb.output, hb.size, fun k hk _ => hb.block k hk⟩
theorem own_below {w w' : World} {B size : Nat} {e : TypeId} {v : Value} {n : Nat} {xs : List Value} (h : w.ownsRow B e size v n xs) (hb : Below w.heap.size w w') : w'.ownsRow B e size v n xs :=
  h.kept (grown_of_below hb none) (by cases v.ownBlock <;> simp)
/-- Two rows of which one lies below the other's base. -/
theorem own_apart {w w1 : World} {B B1 size size1 : Nat} {e e1 : TypeId} {v v1 : Value} {n n1 : Nat} {xs xs1 : List Value} (h : w.ownsRow B e size v n xs) (h1 : w1.ownsRow B1 e1 size1 v1 n1 xs1) (hB : w.heap.size ≤ B1) :
    v.ownBlock = none ∨ v.ownBlock ≠ v1.ownBlock := by
  cases hv : v.ownBlock with
  | none => exact .inl rfl
  | some k =>
    refine .inr fun e => ?_
    have a := (h.lt k hv).2
    have b := (h1.lt k e.symm).1
    omega
theorem below_own {w0 w w' : World} {B size : Nat} {e : TypeId} {v : Value} {n : Nat} {xs : List Value} (hb : Below w0.heap.size w0 w) (h : w.ownsRow B e size v n xs) (hB : w0.heap.size ≤ B) (hg : w.grownBy w' v.ownBlock) : Below w0.heap.size w0 w' :=
  hb.grown hg hb.size (fun k hk => Nat.le_trans hB (h.lt k hk).1)
theorem own_base {w : World} {B B' size : Nat} {e : TypeId} {v : Value} {n : Nat} {xs : List Value} (h : w.ownsRow B e size v n xs) (hB : B' ≤ B) : w.ownsRow B' e size v n xs := by
  refine ⟨h.1, ?_⟩
  rcases h.2 with h2 | ⟨g, cap, cur, hv, hg, r⟩
  · exact .inl h2
  · exact .inr ⟨g, cap, cur, hv, Nat.le_trans hB hg, r⟩

theorem own_ne {w : World} {B size g : Nat} {e : TypeId} {v : Value} {n : Nat} {xs : List Value} (h : w.ownsRow B e size v n xs) (hg : g < B) : some g ≠ v.ownBlock := fun he => by
  have := (h.lt g he.symm).1
  omega
def Ints (w : World) (B : Nat) (v : Value) (xs : List Int) : Prop := w.ownsRow B 3 1 v xs.length (xs.map (Value.int .i64))
section
variable {w w' : World} {B : Nat} {v : Value} {xs : List Int}
theorem Ints.below (h : Ints w B v xs) (hb : Below w.heap.size w w') : Ints w' B v xs := own_below h hb
theorem Ints.base {B' : Nat} (h : Ints w B v xs) (hB : B' ≤ B) : Ints w B' v xs := own_base h hB
theorem Ints.kept {v1 : Value} (h : Ints w B v xs) (hg : w.grownBy w' v1.ownBlock) (hne : v.ownBlock = none ∨ v.ownBlock ≠ v1.ownBlock) : Ints w' B v xs := World.ownsRow.kept h hg hne
theorem Ints.drewN (h : Ints w B v xs) (n : Nat) : Ints (w.drewN n) B v xs := h
theorem Ints.nil (w : World) (B : Nat) : Ints w B (.slice none 0 0) [] := World.ownsRow_nil _ _ _ _
theorem Ints.len (h : Ints w B v xs) : xs.length ≤ maxLen := by
  rcases h.2 with ⟨_, h0⟩ | ⟨g, cap, cur, _, _, _, hn, hm, _⟩
  · omega
  · omega
theorem Ints.shape (h : Ints w B v xs) : ∃ A c, v = .slice A xs.length c ∧ ∀ k, k < xs.length → ∃ g, A = some ⟨g, 0, none⟩ ∧ B ≤ g ∧ g < w.heap.size ∧ w.cell? ⟨g, k, none⟩ = some (.int .i64 (xs.getD k 0)) ∧ w.frozen? ⟨g, k, none⟩ = false := by
  have h' := h
  unfold Ints at h'
  rcases h.2 with ⟨rfl, h0⟩ | ⟨g, cap, cur, rfl, hB, hg, _⟩
  · exact ⟨none, 0, by rw [h0], fun k hk => by omega⟩
  · refine ⟨some ⟨g, 0, none⟩, cap, rfl, fun k hk => ⟨g, rfl, hB, (Array.getElem?_eq_some_iff.1 hg).1, ?_, h'.frozenAt k⟩⟩
    rw [h'.cellAt k (by omega)]
    simp [List.getD_eq_getElem?_getD, hk]
theorem ints_lit (w : World) (xs : List Int) (cs : Array Value) (n : Nat) (hn : n = xs.length) (hcs : cs = (xs.map (Value.int .i64)).toArray) (hm : xs.length ≤ maxLen) :
    Ints (w.alloc (.cells cs 3)) w.heap.size (.slice (some ⟨w.heap.size, 0, none⟩) n n) xs := by
  subst hn hcs
  have := World.ownsRow_lit (base := w.heap.size) (e := 3) (size := 1) w (xs.map (Value.int .i64)).toArray xs.length (Nat.le_refl _) hm (by simp)
  simpa [Ints] using this
end
/-- What a function of the program that returns a slice of integers and a bool has done. -/
def RetInts (ok : Bool) (xs : List Int) (w : World) (e : Ending) (w' : World) : Prop := ∃ v, e = .returned (.tuple #[v, .bool ok]) ∧ Ints w' w.heap.size v xs ∧ Below w.heap.size w w'
/-- .. that returns a slice of integers alone. -/
def RetInts1 (xs : List Int) (w : World) (e : Ending) (w' : World) : Prop := ∃ v, e = .returned v ∧ Ints w' w.heap.size v xs ∧ Below w.heap.size w w'

theorem int_info : (Try.prog.info? 3).map (fun i => (i.zero, i.size, i.bytes)) = some (some (.int .i64 0), 1, 8) := by kernel_rfl
/-- 'out = append(out, y)' on a slice of integers of the call's own. -/
theorem wp_append1 {ops : Array Oper} {rest : List Oper} {o : Oper} {a : Act} {Q : Exit → Act → World → Prop} {wb w0 : World} (hgd : o.guard = none) (s x : Operand)
    (ho : o.op = .call { callee := .builtin .append, args := #[s, x], argTypes := #[61, 61] }) (v : Value) (xs : List Int) (y : Int) (hs : a.eval s = v)
    (hx : a.eval x = .slice (some ⟨w0.heap.size, 0, none⟩) 1 1) (hv : Ints w0 wb.heap.size v xs) (hb : Below wb.heap.size wb w0) (hl : xs.length ≤ 1048576)
    (h : ∀ v' w', Ints w' wb.heap.size v' (xs ++ [y]) → Below wb.heap.size wb w' → wpList Try.prog ops Q rest (a.put o.dst v') w') :
    wpList Try.prog ops Q (o :: rest) a (w0.alloc (.cells #[.int .i64 y] 3)) := by
  obtain ⟨i0, hi0, hz0, hz1, hz2⟩ := info_parts int_info
  have hv' : (w0.alloc (.cells #[.int .i64 y] 3)).ownsRow wb.heap.size 3 1 v xs.length (xs.map (Value.int .i64)) := World.ownsRow.alloc hv _
  refine wpList_append_own _ hgd s x _ ho wb.heap.size 3 i0 (.int .i64 0) 1 8 Try.underlying61 hi0 hz0 hz1 hz2 rfl (by decide) v xs.length _ hs hv' ⟨w0.heap.size, 0, none⟩ 1 1 [.int .i64 y] hx rfl ?_ ?_ ?_ ?_ ?_ ?_
  · intro j u hu
    match j, hu with
    | 0, hu =>
      simp at hu
      subst hu
      simp [Addr.add]
  · simp [Value.oneCell']
  · simp only [maxLen]; omega
  · omega
  · have := hb.size; simp; omega
  · intro v' w' h1 h2 _
    refine h v' w' ?_ ?_
    · unfold Ints
      simpa using h1
    · exact (hb.alloc hb.size _).grown h2 (by have := hb.size; simp; omega) (fun k hk => (hv'.lt k hk).1)
def marks (k : Int) (n : Nat) : List Int := (List.range n).map fun (i : Nat) => k + (i : Int)
theorem marks_length (k : Int) (n : Nat) : (marks k n).length = n := by simp [marks]
theorem marks_getD (k : Int) (n i : Nat) (h : i < n) : (marks k n).getD i 0 = k + i := by simp [marks, List.getD_eq_getElem?_getD, h]
theorem marks_set (k : Int) (xs : List Int) (j : Nat) (h : j < xs.length) :
    ((marks k j ++ xs.drop j).map (Value.int .i64)).set j (.int .i64 (k + j)) = (marks k (j + 1) ++ xs.drop (j + 1)).map (Value.int .i64) := by
  rw [List.drop_eq_getElem_cons h]
  have e : marks k (j + 1) = marks k j ++ [k + (j : Int)] := by simp [marks, List.range_succ]
  rw [e]
  simp only [List.map_append, List.map_cons, List.append_assoc, List.cons_append, List.nil_append]
  rw [List.set_append_right _ _ (by simp [marks])]
  simp [marks]
end Go.Proofs.Ytonkblhajbphmaa
