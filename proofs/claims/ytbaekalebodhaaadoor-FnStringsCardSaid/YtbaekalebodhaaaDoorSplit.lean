/- Texts that are split at a byte. Conditions: as each theorem says. -/
import Derived.Test.YtbaekalebodhaaaDoorRows
import Derived.Test.YtbaekalebodhaaaDoorOwnS
import Derived.Maps.AppendAt
namespace Go.Proofs.YtbaekalebodhaaaDoor
set_option linter.unusedSimpArgs false
set_option linter.unusedVariables false
open Go.ChangeShapes Go.WideShapes Go.ChangeAt Go.RowKit

theorem string_info : (Tryd.prog.info? 9).map (fun i => (i.zero, i.size, i.bytes)) = some (some (.string ByteArray.empty), 1, 16) := by kernel_rfl
theorem wp_appendS {ops : Array Oper} {rest : List Oper} {o : Oper} {a : Act} {Q : Exit → Act → World → Prop} {w0 : World} (hgd : o.guard = none) (s x : Operand)
    (ho : o.op = .call { callee := .builtin .append, args := #[s, x], argTypes := #[48, 48] }) (v : Value) (xs : List ByteArray) (y : ByteArray) (B : Nat) (hs : a.eval s = v)
    (hx : a.eval x = .slice (some ⟨w0.heap.size, 0, none⟩) 1 1) (hv : Strs w0 B v xs) (hB : B ≤ w0.heap.size) (hl : xs.length ≤ 1048576)
    (h : ∀ v' w', Strs w' B v' (xs ++ [y]) → w0.grownBy w' v.ownBlock → wpList Tryd.prog ops Q rest (a.put o.dst v') w') :
    wpList Tryd.prog ops Q (o :: rest) a (w0.alloc (.cells #[.string y] 9)) := by
  obtain ⟨i0, hi0, hz0, hz1, hz2⟩ := info_parts string_info
  have hv' : (w0.alloc (.cells #[.string y] 9)).ownsRow B 9 1 v xs.length (xs.map Value.string) := World.ownsRow.alloc hv _
  refine wpList_append_own _ hgd s x _ ho B 9 i0 _ 1 16 Tryd.underlying48 hi0 hz0 hz1 hz2 rfl (by decide) v xs.length _ hs hv' ⟨w0.heap.size, 0, none⟩ 1 1 [.string y] hx rfl ?_ ?_ ?_ ?_ ?_ ?_
  · intro j u hu
    match j, hu with
    | 0, hu =>
      simp at hu
      subst hu
      simp [Addr.add]
  · simp [Value.oneCell']
  · simp only [maxLen]; omega
  · omega
  · simp; omega
  · intro v' w' h1 h2 _
    refine h v' w' ?_ ⟨h2.os, h2.tape, h2.output, by have := h2.size; simp at this; omega, fun b hb hne => (h2.block b (by simp; omega) hne).trans (Below.heap_alloc w0 _ b hb)⟩
    unfold Strs
    simpa using h1
theorem ret_strs {ok ok' : Bool} {xs xs' : List ByteArray} {w W : World} {v : Value} {e : Ending} (he : e = .returned (.tuple #[v, .bool ok])) (hok : ok' = ok) (hx : xs' = xs) (hs : Strs W w.heap.size v xs) (hb : Below w.heap.size w W) : RetStrs ok' xs' w e W := by
  subst hok hx
  exact ⟨v, he, hs, hb⟩
/-- What has been split off ahead of place k, and where the next part begins. -/
def spOut (s : ByteArray) (b : UInt8) : Nat → List ByteArray × Nat
  | 0 => ([], 0)
  | k + 1 => if s.data.toList.getD k 0 = b then ((spOut s b k).1 ++ [s.extract (spOut s b k).2 k], k + 1) else spOut s b k
theorem spOut_le (s : ByteArray) (b : UInt8) (k : Nat) : (spOut s b k).2 ≤ k ∧ (spOut s b k).1.length ≤ k := by
  induction k with
  | zero => simp [spOut]
  | succ k ih =>
    unfold spOut
    split
    · simp; omega
    · omega
theorem spOut_hit {s : ByteArray} {b : UInt8} {k : Nat} (h : k < s.size) (he : ((s[k].toNat : Int) == (b.toNat : Int)) = true) : spOut s b (k + 1) = ((spOut s b k).1 ++ [s.extract (spOut s b k).2 k], k + 1) := by
  have e : s.data.toList.getD k 0 = s[k] := by
    rw [List.getD_eq_getElem?_getD, List.getElem?_eq_getElem (by simpa using h)]
    rfl
  have e2 : s[k] = b := by
    have : (s[k].toNat : Int) = (b.toNat : Int) := by simpa using he
    exact UInt8.toNat_inj.1 (by omega)
  rw [spOut, e, if_pos e2]
theorem spOut_miss {s : ByteArray} {b : UInt8} {k : Nat} (h : k < s.size) (he : ((s[k].toNat : Int) == (b.toNat : Int)) = false) : spOut s b (k + 1) = spOut s b k := by
  have e : s.data.toList.getD k 0 = s[k] := by
    rw [List.getD_eq_getElem?_getD, List.getElem?_eq_getElem (by simpa using h)]
    rfl
  have e2 : ¬ s[k] = b := fun e => by
    rw [e] at he
    simp at he
  rw [spOut, e, if_neg e2]
def splitS (s : ByteArray) (b : UInt8) : List ByteArray := (spOut s b s.size).1 ++ [s.extract (spOut s b s.size).2 s.size]
theorem splitS_len (s : ByteArray) (b : UInt8) : (splitS s b).length ≤ s.size + 1 := by
  have := (spOut_le s b s.size).2
  unfold splitS
  simp
  omega
def okSp (s sep : ByteArray) : Bool := decide (s.size ≤ 4000) && decide (sep.size = 1)
def splitV (s sep : ByteArray) : List ByteArray := if okSp s sep then splitS s (sep.data.toList.getD 0 0) else []
theorem splitV_len (s sep : ByteArray) : (splitV s sep).length ≤ 1048576 := by
  unfold splitV okSp
  split
  · next h =>
    simp at h
    have := splitS_len s (sep.data.toList.getD 0 0)
    omega
  · simp
theorem sep_at {sep : ByteArray} (h : 0 < sep.size) : sep[0] = sep.data.toList.getD 0 0 := by
  rw [List.getD_eq_getElem?_getD, List.getElem?_eq_getElem (by simpa using h)]
  rfl
set_option maxHeartbeats 1000000 in
theorem spec_l1Split (s : ByteArray) (b : UInt8) (w : World) (hs : s.size ≤ 1048576) : Calls Tryd.prog 37 #[.string s, .int .u8 (b.toNat : Int)] w (RetStrs1 (splitS s b) w) := by
  go_enter Tryd.func37, Tryd.ntmps37
  go_wp2
  have H0 : Hid (Strs (w.alloc (.cells #[] 9)) w.heap.size (.slice (some ⟨w.heap.size, 0, none⟩) 0 0) [] ∧ Below w.heap.size w (w.alloc (.cells #[] 9))) := ⟨strs_lit w [] #[] 0 rfl rfl (by decide), balloc (Below.refl _ _) _⟩
  go_loopw [5, 6, 7] (fun v f i wr => ∃ k : Nat, k ≤ s.size ∧ i = .int .i64 k ∧ f = .int .i64 ((spOut s b k).2 : Nat) ∧ Hid (Strs wr w.heap.size v (spOut s b k).1 ∧ Below w.heap.size w wr)) (fun _ _ i _ => s.size - (intOf i).toNat)
  case atStart => exact ⟨0, Nat.zero_le _, rfl, rfl, H0⟩
  case round =>
    obtain ⟨k, hk, rfl, rfl, hi⟩ := hrel
    clear H0
    obtain ⟨hf, hl⟩ := spOut_le s b k
    by_cases hlt : k < s.size
    · cases he : ((s[k].toNat : Int) == (b.toNat : Int))
      · have HS := Lib.hid (spOut_miss hlt he)
        generalize hq : spOut s b k = q at *
        go_wp2
        go_roundw
        case rel => exact ⟨k + 1, by omega, by go_num, by rw [HS.out], by rw [HS.out]; exact hi⟩
        case measure => simp [intOf]; omega
      · have HS := Lib.hid (spOut_hit hlt he)
        generalize spOut s b k = q at *
        obtain ⟨q1, q2⟩ := q
        have hzz := hi.out.2.size
        simp only at hf hl
        go_wp2_with (at_builtin; refine wp_appendS rfl _ _ rfl _ q1 _ _ rfl rfl hi.out.1 hzz (by omega) ?_; intro v' w1 hi1 hg1)
        have HN : Hid (Strs w1 w.heap.size v' (q1 ++ [s.extract q2 k]) ∧ Below w.heap.size w w1) := ⟨hi1, hi.out.2.grown hg1 hzz fun j hj => (hi.out.1.lt j hj).1⟩
        clear hi1 hg1
        go_roundw
        case rel => exact ⟨k + 1, by omega, by go_num, by rw [HS.out]; rfl, by rw [HS.out]; exact HN⟩
        case measure => simp [intOf]; omega
    · obtain rfl : k = s.size := by omega
      have HE : Hid (splitS s b = (spOut s b s.size).1 ++ [s.extract (spOut s b s.size).2 s.size]) := rfl
      generalize spOut s b s.size = q at *
      obtain ⟨q1, q2⟩ := q
      have hzz := hi.out.2.size
      simp only at hf hl
      go_wp2_with (at_builtin; refine wp_appendS rfl _ _ rfl _ q1 _ _ rfl rfl hi.out.1 hzz (by omega) ?_; intro v' w1 hi1 hg1)
      go_ret
      exact ⟨_, rfl, by rw [HE.out]; exact hi1, hi.out.2.grown hg1 hzz fun j hj => (hi.out.1.lt j hj).1⟩
end Go.Proofs.YtbaekalebodhaaaDoor
