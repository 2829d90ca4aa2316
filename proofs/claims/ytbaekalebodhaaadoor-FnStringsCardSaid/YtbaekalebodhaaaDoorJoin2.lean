/- The functions that join texts. Conditions: as each theorem says. -/
import Derived.Test.YtbaekalebodhaaaDoorRows
import Derived.Test.YtbaekalebodhaaaDoorJoin
import Derived.Lib.Join
namespace Go.Proofs.YtbaekalebodhaaaDoor
set_option linter.unusedSimpArgs false
set_option linter.unusedVariables false
open Go.ChangeShapes Go.WideShapes Go.ChangeAt Go.RowKit

def stands (s : ByteArray) (b : UInt8) : Bool := s.data.toList.any (· == b)
def jn (xs : List ByteArray) (sep : ByteArray) : ByteArray := ⟨(Lib.join (xs.map (·.data.toList)) sep.data.toList).toArray⟩
theorem ba_ext {a b : ByteArray} (h : a.data.toList = b.data.toList) : a = b := by
  obtain ⟨⟨x⟩⟩ := a
  obtain ⟨⟨y⟩⟩ := b
  simp at h
  rw [h]
theorem jn_toList (xs : List ByteArray) (sep : ByteArray) : (jn xs sep).data.toList = Lib.join (xs.map (·.data.toList)) sep.data.toList := by simp [jn]
theorem jn_first (xs : List ByteArray) (sep : ByteArray) (h : 0 < xs.length) : jn (xs.take 1) sep = jn (xs.take 0) sep ++ xs.getD 0 ⟨#[]⟩ := by
  cases xs with
  | nil => simp at h
  | cons x r =>
    apply ba_ext
    rw [ByteArray.data_append, Array.toList_append, jn_toList, jn_toList]
    simp [Lib.join_one, Lib.join_nil]
theorem jn_next (xs : List ByteArray) (sep : ByteArray) (k : Nat) (h : k < xs.length) (hk : 0 < k) : jn (xs.take (k + 1)) sep = (jn (xs.take k) sep ++ sep) ++ xs.getD k ⟨#[]⟩ := by
  cases xs with
  | nil => simp at h
  | cons x r =>
    obtain ⟨j, rfl⟩ : ∃ j, k = j + 1 := ⟨k - 1, by omega⟩
    have hj : j < r.length := by simpa using h
    apply ba_ext
    rw [ByteArray.data_append, Array.toList_append, ByteArray.data_append, Array.toList_append, jn_toList, jn_toList]
    simp only [List.take_succ_cons, List.map_cons, Lib.join_cons, List.map_take]
    have hy : (r.map (·.data.toList))[j]? = some r[j].data.toList := by simp [hj]
    rw [Lib.joinTail_take_succ _ _ _ _ hy]
    simp [List.getD_eq_getElem?_getD, hj, List.append_assoc]
theorem jn_size (xs : List ByteArray) (sep : ByteArray) (hs : sep.size = 1) (k : Nat) (h : k ≤ xs.length) : (jn (xs.take k) sep).size = (k - 1) + sumS (xs.take k) := by
  induction k with
  | zero => simp [jn, Lib.join_nil, sumS]; rfl
  | succ k ih =>
    have ih := ih (by omega)
    rw [sumS_take xs k (by omega)]
    by_cases h0 : k = 0
    · subst h0
      rw [jn_first xs sep (by omega), ByteArray.size_append, ih]
      simp
    · rw [jn_next xs sep k (by omega) (by omega), ByteArray.size_append, ByteArray.size_append, ih, hs]
      omega
def okJ (xs : List ByteArray) (sep : ByteArray) : Bool := decide (sep.size = 1) && (decide (0 < xs.length) && (xs.all (fun x => !stands x (sep.data.toList.getD 0 0)) && decide (xs.length - 1 + sumS xs ≤ 4000)))
def joinV (xs : List ByteArray) (sep : ByteArray) : ByteArray := if okJ xs sep then jn xs sep else ⟨#[]⟩
/-- What a function that joins has done. -/
def RetJ (xs : List ByteArray) (sep : ByteArray) (w : World) (e : Ending) (w' : World) : Prop := e = .returned (.tuple #[.string (joinV xs sep), .bool (okJ xs sep)]) ∧ Below w.heap.size w w'
theorem retJ_no {xs : List ByteArray} {sep : ByteArray} {w w' : World} {e : Ending} (he : e = .returned (.tuple #[.string ⟨#[]⟩, .bool false])) (h : okJ xs sep = false) (hb : Below w.heap.size w w') : RetJ xs sep w e w' := by
  refine ⟨?_, hb⟩
  unfold joinV
  rw [h, he]
  rfl
theorem retJ_yes {xs : List ByteArray} {sep : ByteArray} {w w' : World} {e : Ending} (he : e = .returned (.tuple #[.string (jn xs sep), .bool true])) (h : okJ xs sep = true) (hb : Below w.heap.size w w') : RetJ xs sep w e w' := by
  refine ⟨?_, hb⟩
  unfold joinV
  rw [h, he]
  rfl
theorem okJ_stand {xs : List ByteArray} {sep : ByteArray} {k : Nat} (h : k < xs.length) (hs : stands (xs.getD k ⟨#[]⟩) (sep.data.toList.getD 0 0) = true) : okJ xs sep = false := by
  unfold okJ
  have : xs.all (fun x => !stands x (sep.data.toList.getD 0 0)) = false := by
    rw [← Bool.not_eq_true, List.all_eq_true]
    intro hall
    have := hall (xs.getD k ⟨#[]⟩) (by simp [List.getD_eq_getElem?_getD, h])
    rw [hs] at this
    cases this
  rw [this]
  simp
theorem okJ_size {xs : List ByteArray} {sep : ByteArray} (h : 4000 < xs.length - 1 + sumS xs) : okJ xs sep = false := by
  unfold okJ
  have : decide (xs.length - 1 + sumS xs ≤ 4000) = false := by simp; omega
  rw [this]
  simp
/-- No part ahead of place k holds the byte. -/
def clean (xs : List ByteArray) (b : UInt8) (k : Nat) : Prop := ∀ x ∈ xs.take k, stands x b = false
theorem clean_succ {xs : List ByteArray} {b : UInt8} {k : Nat} (h : clean xs b k) (hk : k < xs.length) (hs : stands (xs.getD k ⟨#[]⟩) b = false) : clean xs b (k + 1) := by
  intro x hx
  rw [List.take_succ_eq_append_getElem hk, List.mem_append] at hx
  rcases hx with hx | hx
  · exact h x hx
  · simp at hx
    subst hx
    simpa [List.getD_eq_getElem?_getD, hk] using hs
theorem okJ_all {xs : List ByteArray} {sep : ByteArray} (h1 : sep.size = 1) (h0 : 0 < xs.length) (hc : clean xs (sep.data.toList.getD 0 0) xs.length) (hz : xs.length - 1 + sumS xs ≤ 4000) : okJ xs sep = true := by
  unfold okJ
  have : xs.all (fun x => !stands x (sep.data.toList.getD 0 0)) = true := by
    rw [List.all_eq_true]
    intro x hx
    rw [hc x (by simpa using hx)]
    rfl
  rw [this]
  simp [h1, h0, hz]
theorem stands_step (s : ByteArray) (b : UInt8) (k : Nat) (h : k < s.size) : (s.data.toList.drop k).any (· == b) = (((s[k].toNat : Int) == (b.toNat : Int)) || (s.data.toList.drop (k + 1)).any (· == b)) := by
  rw [List.drop_eq_getElem_cons (by simpa using h), List.any_cons]
  congr 1
  rw [Bool.eq_iff_iff]
  simp only [beq_iff_eq]
  constructor
  · intro e
    have : s[k] = b := e
    rw [this]
  · intro e
    have : s[k].toNat = b.toNat := by omega
    exact UInt8.toNat_inj.1 this
theorem spec_l1Stands (s : ByteArray) (b : UInt8) (w : World) (hs : s.size ≤ 1048576) : Calls Tryd.prog 34 #[.string s, .int .u8 (b.toNat : Int)] w fun e w' => e = .returned (.bool (stands s b)) ∧ w = w' := by
  go_enter Tryd.func34, Tryd.ntmps34
  go_wp2
  go_loop [5] (fun i => ∃ k : Nat, k ≤ s.size ∧ i = .int .i64 k ∧ Hid (stands s b = (s.data.toList.drop k).any (· == b))) (fun i => s.size - (intOf i).toNat)
  case atStart => exact ⟨0, Nat.zero_le _, rfl, rfl⟩
  case round =>
    obtain ⟨k, hk, rfl, hi⟩ := hrel
    by_cases hlt : k < s.size
    · have HS := Lib.hid (stands_step s b k hlt)
      cases he : ((s[k].toNat : Int) == (b.toNat : Int))
      · go_wp2
        go_round
        case rel => exact ⟨k + 1, by omega, by go_num, by rw [hi.out, HS.out, he]; rfl⟩
        case measure => simp [intOf]; omega
      · go_wp2
        go_ret
        exact ⟨by rw [hi.out, HS.out, he]; rfl, rfl⟩
    · go_wp2
      go_ret
      exact ⟨by rw [hi.out, List.drop_of_length_le (by simp; omega)]; rfl, rfl⟩
theorem spec_l1Stands_b (s : ByteArray) (b : UInt8) (w : World) (hs : s.size ≤ 1048576) : Calls Tryd.prog 34 #[.string s, .int .u8 (b.toNat : Int)] w fun e w' => e = .returned (.bool (stands s b)) ∧ Below w.heap.size w w' :=
  (spec_l1Stands s b w hs).mono fun e w' ⟨he, hw⟩ => ⟨he, hw ▸ Below.refl _ _⟩
theorem sum_part (xs : List ByteArray) (k : Nat) (h : k < xs.length) : (xs.getD k ⟨#[]⟩).size ≤ sumS xs := by
  have h1 := sumS_take xs k h
  have h2 := sumS_le xs (k + 1)
  omega
theorem ib_stands (l : List UInt8) (b : UInt8) : decide (0 ≤ Lib.indexByte l b) = l.any (· == b) := by
  induction l with
  | nil => rfl
  | cons x l ih =>
    unfold Lib.indexByte
    rw [List.any_cons]
    have hg := Lib.indexByte_ge l b
    cases hx : (x == b)
    · simp only [Bool.false_eq_true, if_false, Bool.false_or]
      rw [← ih]
      by_cases h1 : Lib.indexByte l b = -1
      · simp [h1]
      · have : (Lib.indexByte l b == -1) = false := by simpa using h1
        rw [this]
        simp only [Bool.false_eq_true, if_false]
        rw [Bool.eq_iff_iff]
        simp
        omega
    · simp
end Go.Proofs.YtbaekalebodhaaaDoor
