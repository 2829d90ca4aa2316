/- Contracts of the functions that return lists of integers. Conditions: as each theorem says. -/
import Derived.Test.YtonkblhajbphmaaRows
import Derived.Test.YtonkblhajbphmaaGroup
import Derived.Test.YtonkblhajbphmaaOwn
namespace Go.Proofs.Ytonkblhajbphmaa
set_option linter.unusedSimpArgs false
set_option linter.unusedVariables false
open Go.ChangeShapes Go.WideShapes Go.ChangeAt Go.RowKit

theorem heap_new (w : World) (o : Obj) (g : Nat) (h : g = w.heap.size) : (w.alloc o).heap[g]? = some o := by
  subst h
  exact heap_alloc_new w o
theorem heap_old (w : World) (o : Obj) (g : Nat) (h : g < w.heap.size) : (w.alloc o).heap[g]? = w.heap[g]? := Below.heap_alloc w o g h
theorem size_drewN' (w : World) (n : Nat) : (w.drewN n).heap.size = w.heap.size := rfl
theorem ints_at (w : World) (B g n : Nat) (xs : List Int) (cs : Array Value) (h : w.heap[g]? = some (.cells cs 3 (0, 0))) (hcs : cs = (xs.map (Value.int .i64)).toArray) (hn : n = xs.length) (hB : B ≤ g) (hm : xs.length ≤ maxLen) :
    Ints w B (.slice (some ⟨g, 0, none⟩) n n) xs := by
  subst hcs hn
  exact ⟨by simp, .inr ⟨g, xs.length, _, rfl, hB, h, Nat.le_refl _, hm, by simp, by rw [List.take_of_length_le (by simp)]⟩⟩

theorem impl_Field_tinctures (d l a b : Int) (w : World) : Calls Try.prog 59 #[.agg #[.int .i64 d, .int .i64 l, .int .i64 a, .int .i64 b]] w (RetInts1 (ftL d a b) w) := by
  by_cases h : d = 0
  · subst h
    rw [show ftL 0 a b = [a] from rfl]
    go_enter Try.func59, Try.ntmps59
    go_wp2
    go_ret
    exact ⟨_, rfl, ints_at _ _ (w.heap.size + 1) _ [a] _ (by repeat (first | exact heap_new _ _ _ (by simp; done) | rw [heap_old _ _ _ (by simp <;> omega)])) rfl rfl (by omega) (by simp [maxLen]), (by repeat (first | (with_reducible exact Below.refl _ _) | (with_reducible assumption) | (with_reducible refine balloc ?_ _) | (with_reducible refine bdrew ?_) | (with_reducible refine bdrewN ?_ _) | (with_reducible refine bset ?_ (by first | omega | (simp; done) | (simp; omega)) _) | (with_reducible refine bstep ?_ (by assumption))))⟩
  · rw [show ftL d a b = [a, b] from if_neg h]
    have n : (d == 0) = false := by simpa using h
    go_enter Try.func59, Try.ntmps59
    go_wp2
    go_ret
    exact ⟨_, rfl, ints_at _ _ (w.heap.size + 1) _ [a, b] _ (by repeat (first | exact heap_new _ _ _ (by simp; done) | rw [heap_old _ _ _ (by simp <;> omega)])) rfl rfl (by omega) (by simp [maxLen]), (by repeat (first | (with_reducible exact Below.refl _ _) | (with_reducible assumption) | (with_reducible refine balloc ?_ _) | (with_reducible refine bdrew ?_) | (with_reducible refine bdrewN ?_ _) | (with_reducible refine bset ?_ (by first | omega | (simp; done) | (simp; omega)) _) | (with_reducible refine bstep ?_ (by assumption))))⟩
theorem spec_l3Tinctures (d l a b : Int) (w : World) : Calls Try.prog 72 #[.agg #[.int .i64 d, .int .i64 l, .int .i64 a, .int .i64 b]] w (RetInts1 (ftL d a b) w) := by
  by_cases h : d = 0
  · subst h
    rw [show ftL 0 a b = [a] from rfl]
    go_enter Try.func72, Try.ntmps72
    go_wp2
    go_ret
    exact ⟨_, rfl, ints_at _ _ (w.heap.size + 1) _ [a] _ (by repeat (first | exact heap_new _ _ _ (by simp; done) | rw [heap_old _ _ _ (by simp <;> omega)])) rfl rfl (by omega) (by simp [maxLen]), (by repeat (first | (with_reducible exact Below.refl _ _) | (with_reducible assumption) | (with_reducible refine balloc ?_ _) | (with_reducible refine bdrew ?_) | (with_reducible refine bdrewN ?_ _) | (with_reducible refine bset ?_ (by first | omega | (simp; done) | (simp; omega)) _) | (with_reducible refine bstep ?_ (by assumption))))⟩
  · rw [show ftL d a b = [a, b] from if_neg h]
    have n : (d == 0) = false := by simpa using h
    go_enter Try.func72, Try.ntmps72
    go_wp2
    go_ret
    exact ⟨_, rfl, ints_at _ _ (w.heap.size + 1) _ [a, b] _ (by repeat (first | exact heap_new _ _ _ (by simp; done) | rw [heap_old _ _ _ (by simp <;> omega)])) rfl rfl (by omega) (by simp [maxLen]), (by repeat (first | (with_reducible exact Below.refl _ _) | (with_reducible assumption) | (with_reducible refine balloc ?_ _) | (with_reducible refine bdrew ?_) | (with_reducible refine bdrewN ?_ _) | (with_reducible refine bset ?_ (by first | omega | (simp; done) | (simp; omega)) _) | (with_reducible refine bstep ?_ (by assumption))))⟩
end Go.Proofs.Ytonkblhajbphmaa
