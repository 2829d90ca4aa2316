/- Lists of integers that came in, and the functions over lists. Conditions: as each theorem says. -/
import Derived.Test.YtmemabeackgioaaRows
import Derived.Test.YtmemabeackgioaaLists
import Derived.Test.YtmemabeackgioaaFrame
import Derived.Deep.MidRow
namespace Go.Proofs.Ytmemabeackgioaa
set_option linter.unusedSimpArgs false
set_option linter.unusedVariables false
open Go.ChangeShapes Go.WideShapes Go.ChangeAt Go.RowKit

/-- A list of integers that lies in memory, nil let in: what a reader needs. -/
def Reads (w : World) (A : Option Addr) (xs : List Int) : Prop := ∀ k, k < xs.length → ∃ x : Addr, A = some x ∧ x.block < w.heap.size ∧ w.cell? (x.add k) = some (.int .i64 (xs.getD k 0))
theorem add_block (a : Addr) (n : Nat) : (a.add n).block = a.block := by unfold Addr.add; split <;> rfl
theorem Reads.below {w w' : World} {A : Option Addr} {xs : List Int} (h : Reads w A xs) (hb : Below w.heap.size w w') : Reads w' A xs := fun k hk => by
  obtain ⟨x, hx, hl, hc⟩ := h k hk
  exact ⟨x, hx, Nat.lt_of_lt_of_le hl hb.size, (hb.cell (by rw [add_block]; exact hl)).trans hc⟩
theorem Ints.reads {w : World} {B : Nat} {v : Value} {xs : List Int} (h : Ints w B v xs) : ∃ A c, v = .slice A xs.length c ∧ Reads w A xs := by
  obtain ⟨A, c, hv, ha⟩ := h.shape
  refine ⟨A, c, hv, fun k hk => ?_⟩
  obtain ⟨g, hA, _, hg, hc, _⟩ := ha k hk
  refine ⟨⟨g, 0, none⟩, hA, hg, ?_⟩
  rw [Addr.add_mid, Nat.zero_add]
  exact hc
theorem reads_arg {w : World} {a : Option Addr} {len cap : Nat} {zs : List Int} (h : IsRow .i64 w a len cap zs) : len ≤ maxLen ∧ (zs.take len).length = len ∧ Reads w a (zs.take len) := by
  rcases h with ⟨rfl, rfl, rfl, rfl⟩ | ⟨x, rfl, hl, hm, hz, hc, hw⟩
  · exact ⟨by simp [maxLen], rfl, fun k hk => by simp at hk⟩
  · refine ⟨by omega, by simp; omega, fun k hk => ⟨x, rfl, ?_, ?_⟩⟩
    · have hk' : k < zs.length := by simp at hk; omega
      have := World.block_lt_of_cell? _ _ (hc k hk')
      rwa [add_block] at this
    · have hk' : k < zs.length := by simp at hk; omega
      have hk2 : k < len := by simp at hk; omega
      rw [hc k hk']
      simp [List.getD_eq_getElem?_getD, List.getElem?_take, hk2]
theorem laws_toIntS (A : Option Addr) (n c : Nat) (xs : List Int) (hn : n = xs.length) (w : World) (hr : Reads w A xs) (hl : xs.length ≤ 1048576) :
    Calls Try.prog 14 #[.slice A n c] w (RetInts1 xs w) := by
  subst hn
  obtain ⟨i0, hi0, hz0, hz1, hz2⟩ := info_parts int_info
  have HR := Lib.hid hr
  clear hr
  go_enter Try.func14, Try.ntmps14
  go_wp2_with (refine wpList_make_full _ rfl _ _ 22 rfl w.heap.size 3 i0 (.int .i64 0) 1 Try.underlying22 hi0 hz0 hz1 .i64 .i64 _ _ xs.length rfl rfl rfl rfl (by rw [hz2]; omega) (by unfold maxLen; omega) (Nat.le_refl _) ?_; intro w1 hown hg1)
  have hb1 : Below w.heap.size w w1 := (Below.refl _ _).grown hg1 (Nat.le_refl _) (fun k hk => by cases hk)
  have H0 : Hid (Ints w1 w.heap.size (.slice (some ⟨w.heap.size, 0, none⟩) xs.length xs.length) (xs.take 0 ++ (List.replicate xs.length 0).drop 0)) := by
    show Ints _ _ _ _
    unfold Ints
    have h1 : ((xs.take 0 ++ (List.replicate xs.length (0 : Int)).drop 0)).length = xs.length := by simp
    rw [h1]
    have h2 := hown
    rw [Nat.mul_one] at h2
    have h3 : (madeCells (Value.int .i64 0).cells xs.length).toList = List.replicate xs.length (Value.int .i64 0) := toList_madeCells_one _ _
    rw [h3] at h2
    simpa using h2
  have HB := Lib.hid hb1
  clear hown hg1 hb1
  go_loopw [4] (fun i wr => ∃ k : Nat, k ≤ xs.length ∧ i = .int .i64 k ∧ Hid (Ints wr w.heap.size (.slice (some ⟨w.heap.size, 0, none⟩) xs.length xs.length) (xs.take k ++ (List.replicate xs.length 0).drop k)) ∧ Hid (Below w.heap.size w wr)) (fun i _ => xs.length - (intOf i).toNat)
  case atStart => exact ⟨0, Nat.zero_le _, rfl, H0, HB⟩
  case round =>
    obtain ⟨k, hk, rfl, hi, hb⟩ := hrel
    by_cases hlt : k < xs.length
    · obtain ⟨x, rfl, hx, hc⟩ := HR.out k hlt
      have c1 := (hb.out.cell (p := x.add k) (by rw [add_block]; exact hx)).trans hc
      clear hc
      have hn : (xs.take k ++ (List.replicate xs.length 0).drop k).length = xs.length := by simp; omega
      have hi' := hi.out
      unfold Ints at hi'
      rw [hn] at hi'
      have hc2 := hi'.cellAt k (by omega)
      have hf2 := hi'.frozenAt k
      have hst := Lib.hid (hi'.stored k (.int .i64 (xs.getD k 0)))
      have e1 : ((xs.take k ++ (List.replicate xs.length (0 : Int)).drop k : List Int).map (Value.int .i64))[k]? = some (.int .i64 0) := by
        rw [List.getElem?_map, List.getElem?_append_right (by simp; omega), List.getElem?_drop, List.getElem?_replicate, if_pos (by simp; omega)]
        rfl
      rw [e1] at hc2
      clear hi' e1 hn
      generalize hy : xs.getD k 0 = y at *
      have HY := Lib.hid hy
      clear hy
      go_wp2
      go_roundw
      case rel =>
        refine ⟨k + 1, by omega, by go_num, ?_, ?_⟩
        · have h3 := hst.out.1
          show Ints _ _ _ _
          unfold Ints
          rw [show (xs.take (k + 1) ++ (List.replicate xs.length (0 : Int)).drop (k + 1) : List Int).length = xs.length by simp; omega]
          rw [show (xs.take (k + 1) ++ (List.replicate xs.length (0 : Int)).drop (k + 1) : List Int).map (Value.int .i64) = ((xs.take k ++ (List.replicate xs.length (0 : Int)).drop k : List Int).map (Value.int .i64)).set k (.int .i64 y) from ?_]
          · exact h3
          · have e2 : (List.replicate xs.length (0 : Int)).drop k = 0 :: (List.replicate xs.length (0 : Int)).drop (k + 1) := by
              rw [List.drop_eq_getElem_cons (by simpa using hlt)]
              simp
            rw [← HY.out, List.take_succ_eq_append_getElem hlt, e2]
            simp only [List.map_append, List.map_cons, List.append_assoc, List.cons_append, List.nil_append]
            rw [List.set_append_right _ _ (by simp; omega)]
            simp [Nat.min_eq_left hk, List.getD_eq_getElem?_getD, hlt]
        · exact hb.out.grown hst.out.2 hb.out.size (fun b hb' => by cases hb'; exact Nat.le_refl _)
      case measure => simp [intOf]; omega
    · obtain rfl : k = xs.length := by omega
      go_wp2
      go_ret
      have h6 := hi.out
      refine ⟨_, rfl, ?_, hb.out⟩
      simpa using h6
end Go.Proofs.Ytmemabeackgioaa
