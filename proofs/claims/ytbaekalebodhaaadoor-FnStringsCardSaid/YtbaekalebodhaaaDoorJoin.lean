/- Texts that are joined. Conditions: as each theorem says. -/
import Derived.Test.YtbaekalebodhaaaDoorRows
import Derived.Test.YtbaekalebodhaaaDoorSplit
import Derived.Test.YtbaekalebodhaaaDoorShelf
import Derived.SliceStrings
import Derived.Deep.MidRow
import Derived.Laws.ResultCell
namespace Go.Proofs.YtbaekalebodhaaaDoor
set_option linter.unusedSimpArgs false
set_option linter.unusedVariables false
open Go.ChangeShapes Go.WideShapes Go.ChangeAt Go.RowKit

/-! ### lists of texts that came in -/
def IsRowS (w : World) (a : Option Addr) (len cap : Nat) (zs : List ByteArray) : Prop :=
  (a = none ∧ len = 0 ∧ cap = 0 ∧ zs = []) ∨
  ∃ x, a = some x ∧ len ≤ cap ∧ cap ≤ maxLen ∧ zs.length = cap ∧ (∀ i, i < zs.length → w.cell? (x.add i) = some (.string (zs.getD i ByteArray.empty))) ∧ ∀ s ∈ zs, s.size ≤ maxLen
def ReadsS (w : World) (A : Option Addr) (xs : List ByteArray) : Prop := ∀ k, k < xs.length → ∃ x : Addr, A = some x ∧ x.block < w.heap.size ∧ w.cell? (x.add k) = some (.string (xs.getD k ⟨#[]⟩))
theorem addS_block (a : Addr) (n : Nat) : (a.add n).block = a.block := by unfold Addr.add; split <;> rfl
theorem ReadsS.below {w w' : World} {A : Option Addr} {xs : List ByteArray} (h : ReadsS w A xs) (hb : Below w.heap.size w w') : ReadsS w' A xs := fun k hk => by
  obtain ⟨x, hx, hl, hc⟩ := h k hk
  exact ⟨x, hx, Nat.lt_of_lt_of_le hl hb.size, (hb.cell (by rw [addS_block]; exact hl)).trans hc⟩
theorem readsS_arg {w : World} {a : Option Addr} {len cap : Nat} {zs : List ByteArray} (h : IsRowS w a len cap zs) : len ≤ maxLen ∧ (zs.take len).length = len ∧ ReadsS w a (zs.take len) ∧ ∀ k, ((zs.take len).getD k ⟨#[]⟩).size ≤ maxLen := by
  rcases h with ⟨rfl, rfl, rfl, rfl⟩ | ⟨x, rfl, hl, hm, hz, hc, hw⟩
  · exact ⟨by simp [maxLen], rfl, fun k hk => by simp at hk, fun k => by simp [maxLen]; decide⟩
  · refine ⟨by omega, by simp; omega, fun k hk => ⟨x, rfl, ?_, ?_⟩, fun k => ?_⟩
    · have hk' : k < zs.length := by simp at hk; omega
      have := World.block_lt_of_cell? _ _ (hc k hk')
      rwa [addS_block] at this
    · have hk' : k < zs.length := by simp at hk; omega
      have hk2 : k < len := by simp at hk; omega
      rw [hc k hk']
      simp [List.getD_eq_getElem?_getD, List.getElem?_take, hk2, hk']
    · by_cases hk : k < (zs.take len).length
      · have e : (zs.take len).getD k ⟨#[]⟩ ∈ zs := by
          rw [List.getD_eq_getElem?_getD, List.getElem?_eq_getElem hk]
          exact List.mem_of_mem_take (List.getElem_mem hk)
        exact hw _ e
      · rw [List.getD_eq_getElem?_getD, List.getElem?_eq_none (by omega)]
        exact Nat.zero_le _
theorem Strs.shapeC {w : World} {B : Nat} {v : Value} {xs : List ByteArray} (h : Strs w B v xs) (hp : 0 < xs.length) : ∃ g c, v = .slice (some ⟨g, 0, none⟩) xs.length c ∧ xs.length ≤ c ∧ g < w.heap.size ∧ ∀ k, k < xs.length → w.cell? ⟨g, k, none⟩ = some (.string (xs.getD k ⟨#[]⟩)) := by
  have h' := h
  unfold Strs at h'
  rcases h.2 with ⟨rfl, h0⟩ | ⟨g, cap, cur, rfl, hB, hg, hn, _⟩
  · omega
  · refine ⟨g, cap, rfl, hn, (Array.getElem?_eq_some_iff.1 hg).1, fun k hk => ?_⟩
    rw [h'.cellAt k (by omega)]
    simp [List.getD_eq_getElem?_getD, hk]
def sumS : List ByteArray → Nat
  | [] => 0
  | x :: l => x.size + sumS l
theorem sumS_take (xs : List ByteArray) (k : Nat) (h : k < xs.length) : sumS (xs.take (k + 1)) = sumS (xs.take k) + (xs.getD k ⟨#[]⟩).size := by
  induction xs generalizing k with
  | nil => simp at h
  | cons x xs ih =>
    cases k with
    | zero => simp [sumS]
    | succ k =>
      have := ih k (by simpa using h)
      simp only [List.take_succ_cons, sumS, this]
      simp [List.getD_eq_getElem?_getD]
      omega
theorem sumS_le (xs : List ByteArray) (k : Nat) : sumS (xs.take k) ≤ sumS xs := by
  induction xs generalizing k with
  | nil => simp
  | cons x xs ih =>
    cases k with
    | zero => simp [sumS]
    | succ k =>
      have := ih k
      simp only [List.take_succ_cons, sumS]
      omega
end Go.Proofs.YtbaekalebodhaaaDoor
