/- Texts that are joined. Conditions: as each theorem says. -/
import Derived.Test.YtbaekalebodhaaaRows
import Derived.Test.YtbaekalebodhaaaSplit
import Derived.Test.YtbaekalebodhaaaShelf
import Derived.SliceStrings
import Derived.Deep.MidRow
import Derived.Laws.ResultCell
namespace Go.Proofs.Ytbaekalebodhaaa
set_option linter.unusedSimpArgs false
set_option linter.unusedVariables false
open Go.ChangeShapes Go.WideShapes Go.ChangeAt Go.RowKit

/-! ### lists of texts that came in -/
def IsRowS (w : World) (a : Option Addr) (len cap : Nat) (zs : List ByteArray) : Prop :=
  (a = none ∧ len = 0 ∧ cap = 0 ∧ zs = []) ∨
  ∃ x, a = some x ∧ len ≤ cap ∧ cap ≤ maxLen ∧ zs.length = cap ∧ (∀ i, i < zs.length → w.cell? (x.add i) = some (.string (zs.getD i ByteArray.empty))) ∧ ∀ s ∈ zs, s.size ≤ maxLen
def ReadsS (w : World) (A : Option Addr) (xs : List ByteArray) : Prop := ∀ k, k < xs.length → ∃ x : Addr, A = some x ∧ x.block < w.heap.size ∧ w.cell? (x.add k) = some (.string (xs.getD k ⟨#[]⟩))
theorem addS_block (a : Addr) (n : Nat) : (a.add n).block = a.block := by unfold Addr.add; split <;> rfl
theorem ReadsS.below {w w' : World} {A : Option Addr} {xs : List ByteArray} (h : ReadsS w A xs) (hb : Below w.heap.size w w') : ReadsS w' A xs := fun k hk => by
  obtain ⟨x, hx, hl, hc⟩ := h k hk
  exact ⟨x, hx, Nat.lt_of_lt_of_le hl hb.size, (hb.cell (by rw [addS_block]; exact hl)).trans hc⟩
theorem readsS_arg {w : World} {a : Option Addr} {len cap : Nat} {zs : List ByteArray} (h : IsRowS w a len cap zs) : len ≤ maxLen ∧ (zs.take len).length = len ∧ ReadsS w a (zs.take len) ∧ ∀ k, ((zs.take len).getD k ⟨#[]⟩).size ≤ maxLen := by
  rcases h with ⟨rfl, rfl, rfl, rfl⟩ | ⟨x, rfl, hl, hm, hz, hc, hw⟩
  · exact ⟨by simp [maxLen], rfl, fun k hk => by simp at hk, fun k => by simp [maxLen]; decide⟩
  · refine ⟨by omega, by simp; omega, fun k hk => ⟨x, rfl, ?_, ?_⟩, fun k => ?_⟩
    · have hk' : k < zs.length := by simp at hk; omega
      have := World.block_lt_of_cell? _ _ (hc k hk')
      rwa [addS_block] at this
    · have hk' : k < zs.length := by simp at hk; omega
      have hk2 : k < len := by simp at hk; omega
      rw [hc k hk']
      simp [List.getD_eq_getElem?_getD, List.getElem?_take, hk2, hk']
    · by_cases hk : k < (zs.take len).length
      · have e : (zs.take len).getD k ⟨#[]⟩ ∈ zs := by
          rw [List.getD_eq_getElem?_getD, List.getElem?_eq_getElem hk]
          exact List.mem_of_mem_take (List.getElem_mem hk)
        exact hw _ e
      · rw [List.getD_eq_getElem?_getD, List.getElem?_eq_none (by omega)]
        exact Nat.zero_le _
theorem Strs.shapeC {w : World} {B : Nat} {v : Value} {xs : List ByteArray} (h : Strs w B v xs) (hp : 0 < xs.length) : ∃ g c, v = .slice (some ⟨g, 0, none⟩) xs.length c ∧ xs.length ≤ c ∧ g < w.heap.size ∧ ∀ k, k < xs.length → w.cell? ⟨g, k, none⟩ = some (.string (xs.getD k ⟨#[]⟩)) := by
  have h' := h
  unfold Strs at h'
  rcases h.2 with ⟨rfl, h0⟩ | ⟨g, cap, cur, rfl, hB, hg, hn, _⟩
  · omega
  · refine ⟨g, cap, rfl, hn, (Array.getElem?_eq_some_iff.1 hg).1, fun k hk => ?_⟩
    rw [h'.cellAt k (by omega)]
    simp [List.getD_eq_getElem?_getD, hk]
set_option maxHeartbeats 1000000 in
theorem laws_toStringS (A : Option Addr) (n c : Nat) (xs : List ByteArray) (hn : n = xs.length) (w : World) (hr : ReadsS w A xs) (hl : xs.length ≤ 1048576) :
    Calls Try.prog 13 #[.slice A n c] w (RetStrs1 xs w) := by
  subst hn
  obtain ⟨i0, hi0, hz0, hz1, hz2⟩ := info_parts string_info
  have HR := Lib.hid hr
  clear hr
  go_enter Try.func13, Try.ntmps13
  go_wp2_with (refine wpList_make_full _ rfl _ _ 22 rfl w.heap.size 9 i0 (.string ByteArray.empty) 1 Try.underlying22 hi0 hz0 hz1 .i64 .i64 _ _ xs.length rfl rfl rfl rfl (by rw [hz2]; omega) (by unfold maxLen; omega) (Nat.le_refl _) ?_; intro w1 hown hg1)
  have hb1 : Below w.heap.size w w1 := (Below.refl _ _).grown hg1 (Nat.le_refl _) (fun k hk => by cases hk)
  have H0 : Hid (Strs w1 w.heap.size (.slice (some ⟨w.heap.size, 0, none⟩) xs.length xs.length) (xs.take 0 ++ (List.replicate xs.length ByteArray.empty).drop 0)) := by
    show Strs _ _ _ _
    unfold Strs
    have h1 : ((xs.take 0 ++ (List.replicate xs.length ByteArray.empty).drop 0)).length = xs.length := by simp
    rw [h1]
    have h2 := hown
    rw [Nat.mul_one] at h2
    have h3 : (madeCells (Value.string ByteArray.empty).cells xs.length).toList = List.replicate xs.length (Value.string ByteArray.empty) := toList_madeCells_one _ _
    rw [h3] at h2
    simpa using h2
  have HB := Lib.hid hb1
  clear hown hg1 hb1
  go_loopw [4] (fun i wr => ∃ k : Nat, k ≤ xs.length ∧ i = .int .i64 k ∧ Hid (Strs wr w.heap.size (.slice (some ⟨w.heap.size, 0, none⟩) xs.length xs.length) (xs.take k ++ (List.replicate xs.length ByteArray.empty).drop k)) ∧ Hid (Below w.heap.size w wr)) (fun i _ => xs.length - (intOf i).toNat)
  case atStart => exact ⟨0, Nat.zero_le _, rfl, H0, HB⟩
  case round =>
    obtain ⟨k, hk, rfl, hi, hb⟩ := hrel
    by_cases hlt : k < xs.length
    · obtain ⟨x, rfl, hx, hc⟩ := HR.out k hlt
      have c1 := (hb.out.cell (p := x.add k) (by rw [addS_block]; exact hx)).trans hc
      clear hc
      have hn : (xs.take k ++ (List.replicate xs.length ByteArray.empty).drop k).length = xs.length := by simp; omega
      have hi' := hi.out
      unfold Strs at hi'
      rw [hn] at hi'
      have hc2 := hi'.cellAt k (by omega)
      have hf2 := hi'.frozenAt k
      have hst := Lib.hid (hi'.stored k (.string (xs.getD k ⟨#[]⟩)))
      have e1 : ((xs.take k ++ (List.replicate xs.length ByteArray.empty).drop k : List ByteArray).map Value.string)[k]? = some (.string ByteArray.empty) := by
        rw [List.getElem?_map, List.getElem?_append_right (by simp; omega), List.getElem?_drop, List.getElem?_replicate, if_pos (by simp; omega)]
        rfl
      rw [e1] at hc2
      clear hi' e1 hn
      generalize hy : xs.getD k ⟨#[]⟩ = y at *
      have HY := Lib.hid hy
      clear hy
      go_wp2
      go_roundw
      case rel =>
        refine ⟨k + 1, by omega, by go_num, ?_, ?_⟩
        · have h3 := hst.out.1
          show Strs _ _ _ _
          unfold Strs
          rw [show (xs.take (k + 1) ++ (List.replicate xs.length ByteArray.empty).drop (k + 1) : List ByteArray).length = xs.length by simp; omega]
          rw [show (xs.take (k + 1) ++ (List.replicate xs.length ByteArray.empty).drop (k + 1) : List ByteArray).map Value.string = ((xs.take k ++ (List.replicate xs.length ByteArray.empty).drop k : List ByteArray).map Value.string).set k (.string y) from ?_]
          · exact h3
          · have e2 : (List.replicate xs.length ByteArray.empty).drop k = ByteArray.empty :: (List.replicate xs.length ByteArray.empty).drop (k + 1) := by
              rw [List.drop_eq_getElem_cons (by simpa using hlt)]
              simp
            rw [← HY.out, List.take_succ_eq_append_getElem hlt, e2]
            simp only [List.map_append, List.map_cons, List.append_assoc, List.cons_append, List.nil_append]
            rw [List.set_append_right _ _ (by simp; omega)]
            simp [Nat.min_eq_left hk, List.getD_eq_getElem?_getD, hlt]
        · exact hb.out.grown hst.out.2 hb.out.size (fun b hb' => by cases hb'; exact Nat.le_refl _)
      case measure => simp [intOf]; omega
    · obtain rfl : k = xs.length := by omega
      go_wp2
      go_ret
      have h6 := hi.out
      refine ⟨_, rfl, ?_, hb.out⟩
      simpa using h6
def sumS : List ByteArray → Nat
  | [] => 0
  | x :: l => x.size + sumS l
theorem sumS_take (xs : List ByteArray) (k : Nat) (h : k < xs.length) : sumS (xs.take (k + 1)) = sumS (xs.take k) + (xs.getD k ⟨#[]⟩).size := by
  induction xs generalizing k with
  | nil => simp at h
  | cons x xs ih =>
    cases k with
    | zero => simp [sumS]
    | succ k =>
      have := ih k (by simpa using h)
      simp only [List.take_succ_cons, sumS, this]
      simp [List.getD_eq_getElem?_getD]
      omega
theorem sumS_le (xs : List ByteArray) (k : Nat) : sumS (xs.take k) ≤ sumS xs := by
  induction xs generalizing k with
  | nil => simp
  | cons x xs ih =>
    cases k with
    | zero => simp [sumS]
    | succ k =>
      have := ih k
      simp only [List.take_succ_cons, sumS]
      omega
/-- The size that is left. -/
def SzS (xs : List ByteArray) (left : Int) (w : World) (e : Ending) (w' : World) : Prop := ∃ n : Int, e = .returned (.int .i64 n) ∧ (0 ≤ n → (xs.length : Int) + sumS xs ≤ left) ∧ w = w'
theorem laws_szStringS (A : Option Addr) (n c : Nat) (xs : List ByteArray) (hn : n = xs.length) (w : World) (hr : ReadsS w A xs) (hl : xs.length ≤ maxLen) (hs : ∀ k, (xs.getD k ⟨#[]⟩).size ≤ maxLen) :
    Calls Try.prog 11 #[.slice A n c, .int .i64 1048576] w (SzS xs 1048576 w) := by
  subst hn
  unfold maxLen at hl hs
  have HR := Lib.hid hr
  have HSZ := Lib.hid hs
  clear hr hs
  by_cases h0 : 1048576 < xs.length
  · go_enter Try.func11, Try.ntmps11
    go_wp2
    go_ret
    exact ⟨-1, rfl, fun h => by omega, rfl⟩
  · go_enter Try.func11, Try.ntmps11
    go_wp2
    go_loop [1, 5] (fun q i => ∃ k : Nat, k ≤ xs.length ∧ i = .int .i64 k ∧ q = .int .i64 (1048576 - (xs.length : Int) - (sumS (xs.take k) : Nat)) ∧ (xs.length : Int) + (sumS (xs.take k) : Nat) ≤ 1048576) (fun _ i => xs.length - (intOf i).toNat)
    case atStart => exact ⟨0, Nat.zero_le _, rfl, by simp [sumS], by simp [sumS]; omega⟩
    case round =>
      obtain ⟨k, hk, rfl, rfl, hsum⟩ := hrel
      by_cases hlt : k < xs.length
      · obtain ⟨ad, rfl, hx, hc⟩ := HR.out k hlt
        have HT := Lib.hid (sumS_take xs k hlt)
        have HLE := sumS_le xs (k + 1)
        have hz := HSZ.out k
        generalize xs.getD k ⟨#[]⟩ = y at *
        generalize sumS (xs.take k) = s at *
        by_cases hb : (xs.length : Int) + s + y.size ≤ 1048576
        · go_wp2
          go_round
          case rel => exact ⟨k + 1, by omega, by go_num, by rw [HT.out]; go_num, by rw [HT.out]; omega⟩
          case measure => simp [intOf]; omega
        · go_wp2
          go_ret
          exact ⟨-1, rfl, fun h => by omega, rfl⟩
      · obtain rfl : k = xs.length := by omega
        rw [List.take_length] at hsum ⊢
        go_wp2
        go_ret
        exact ⟨_, rfl, fun _ => hsum, rfl⟩
end Go.Proofs.Ytbaekalebodhaaa
