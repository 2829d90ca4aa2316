/- Lists of integers that came in, and the functions over lists. Conditions: as each theorem says. -/
import Derived.Test.YtonkblhajbphmaaRows
import Derived.Test.YtonkblhajbphmaaLists
import Derived.Test.YtonkblhajbphmaaFrame
import Derived.Deep.MidRow
namespace Go.Proofs.Ytonkblhajbphmaa
set_option linter.unusedSimpArgs false
set_option linter.unusedVariables false
open Go.ChangeShapes Go.WideShapes Go.ChangeAt Go.RowKit

/-- A list of integers that lies in memory, nil let in: what a reader needs. -/
def Reads (w : World) (A : Option Addr) (xs : List Int) : Prop := ∀ k, k < xs.length → ∃ x : Addr, A = some x ∧ x.block < w.heap.size ∧ w.cell? (x.add k) = some (.int .i64 (xs.getD k 0))
theorem add_block (a : Addr) (n : Nat) : (a.add n).block = a.block := by unfold Addr.add; split <;> rfl
theorem Reads.below {w w' : World} {A : Option Addr} {xs : List Int} (h : Reads w A xs) (hb : Below w.heap.size w w') : Reads w' A xs := fun k hk => by
  obtain ⟨x, hx, hl, hc⟩ := h k hk
  exact ⟨x, hx, Nat.lt_of_lt_of_le hl hb.size, (hb.cell (by rw [add_block]; exact hl)).trans hc⟩
theorem Ints.reads {w : World} {B : Nat} {v : Value} {xs : List Int} (h : Ints w B v xs) : ∃ A c, v = .slice A xs.length c ∧ Reads w A xs := by
  obtain ⟨A, c, hv, ha⟩ := h.shape
  refine ⟨A, c, hv, fun k hk => ?_⟩
  obtain ⟨g, hA, _, hg, hc, _⟩ := ha k hk
  refine ⟨⟨g, 0, none⟩, hA, hg, ?_⟩
  rw [Addr.add_mid, Nat.zero_add]
  exact hc
theorem reads_arg {w : World} {a : Option Addr} {len cap : Nat} {zs : List Int} (h : IsRow .i64 w a len cap zs) : len ≤ maxLen ∧ (zs.take len).length = len ∧ Reads w a (zs.take len) := by
  rcases h with ⟨rfl, rfl, rfl, rfl⟩ | ⟨x, rfl, hl, hm, hz, hc, hw⟩
  · exact ⟨by simp [maxLen], rfl, fun k hk => by simp at hk⟩
  · refine ⟨by omega, by simp; omega, fun k hk => ⟨x, rfl, ?_, ?_⟩⟩
    · have hk' : k < zs.length := by simp at hk; omega
      have := World.block_lt_of_cell? _ _ (hc k hk')
      rwa [add_block] at this
    · have hk' : k < zs.length := by simp at hk; omega
      have hk2 : k < len := by simp at hk; omega
      rw [hc k hk']
      simp [List.getD_eq_getElem?_getD, List.getElem?_take, hk2]
end Go.Proofs.Ytonkblhajbphmaa
