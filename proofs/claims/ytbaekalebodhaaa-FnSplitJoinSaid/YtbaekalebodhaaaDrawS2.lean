/- A drawn list of texts; a split that is joined again. Conditions: as each theorem says. -/
import Derived.Test.YtbaekalebodhaaaRows
import Derived.Test.YtbaekalebodhaaaDrawS
import Derived.Test.YtbaekalebodhaaaJoin2
import Derived.OwnWalk
import Derived.Laws.BytesArg
namespace Go.Proofs.Ytbaekalebodhaaa
set_option linter.unusedSimpArgs false
set_option linter.unusedVariables false
open Go.ChangeShapes Go.WideShapes Go.ChangeAt Go.RowKit

theorem sumS_app (xs : List ByteArray) (y : ByteArray) : sumS (xs ++ [y]) = sumS xs + y.size := by
  induction xs with
  | nil => simp [sumS]
  | cons x xs ih => simp only [List.cons_append, sumS, ih]; omega
theorem byte_info : (Try.prog.info? 5).map (fun i => (i.zero, i.size, i.bytes)) = some (some (.int .u8 0), 1, 1) := by kernel_rfl
/-- A short list of texts, and a sign. -/
def DrawnJ (w : World) (e : Ending) (w' : World) : Prop := ∃ v xs y, e = .returned (.tuple #[v, .string y]) ∧ Strs w' w.heap.size v xs ∧ xs.length + sumS xs ≤ 1048576 ∧ y.size ≤ 20 ∧ Below w.heap.size w w'
def seps2 : List ByteArray := [⟨#[44]⟩, ⟨#[59]⟩, ⟨#[59]⟩, ⟨#[]⟩, ⟨#[97, 98]⟩]
theorem seps2_size {x : ByteArray} (h : x ∈ seps2) : x.size ≤ 20 := by
  simp only [seps2, List.mem_cons, List.not_mem_nil, or_false] at h
  rcases h with rfl | rfl | rfl | rfl | rfl <;> decide
theorem nums_size (n : Nat) : (strOfNums (List.replicate n 0)).size = n := by simp [strOfNums, ByteArray.size]
/-- The list so far, the cursor in block g. -/
def JS (w0 w : World) (g : Nat) (A : Option Addr) (len cap n : Nat) (v : Value) (xs : List ByteArray) (W : World) : Prop := Strs W w.heap.size v xs ∧ g < w.heap.size ∧ Cur w0 W g A len cap n ∧ w.heap.size ≤ W.heap.size ∧ w0.heap.size ≤ w.heap.size
section
variable {w0 w W W' : World} {g : Nat} {A : Option Addr} {len cap n n' : Nat} {v v' : Value} {xs : List ByteArray} {y : ByteArray}
theorem JS.call (h : JS w0 w g A len cap n v xs W) (hg : W.grownBy W' (some g)) (hc : Cur w0 W' g A len cap n') : JS w0 w g A len cap n' v xs W' :=
  ⟨World.ownsRow.kept (row := some g) h.1 hg (.inr (Ne.symm (own_ne h.1 h.2.1))), h.2.1, hc, Nat.le_trans h.2.2.2.1 hg.size, h.2.2.2.2⟩
theorem JS.app (h : JS w0 w g A len cap n v xs W) (hi : Strs W' w.heap.size v' (xs ++ [y])) (hg : W.grownBy W' v.ownBlock) : JS w0 w g A len cap n v' (xs ++ [y]) W' :=
  ⟨hi, h.2.1, CurS.grown h.2.2.1 hg (own_ne h.1 h.2.1) (fun k hk => Nat.le_trans h.2.2.2.2 (h.1.lt k hk).1), Nat.le_trans h.2.2.2.1 hg.size, h.2.2.2.2⟩
theorem JS.more (h : JS w0 w g A len cap n v xs W) (hn : n ≤ n') : JS w0 w g A len cap n' v xs W := ⟨h.1, h.2.1, h.2.2.1.more hn, h.2.2.2.1, h.2.2.2.2⟩
theorem JS.below (h : JS w0 w g A len cap n v xs W) (hb : Below W.heap.size W W') : JS w0 w g A len cap n v xs W' := ⟨h.1.below hb, h.2.1, h.2.2.1.below hb, Nat.le_trans h.2.2.2.1 hb.size, h.2.2.2.2⟩
end
set_option maxHeartbeats 2000000 in
theorem spec_DrawJoinStrings (A : Option Addr) (len cap : Nat) (w : World) (hc : Code w A len) : Calls Try.prog 17 #[.slice A len cap] w (DrawnJ w) := by
  have HC := Lib.hid hc
  clear hc
  obtain ⟨i0, hi0, hz0, hz1, hz2⟩ := info_parts byte_info
  have HI0 := Lib.hid hi0
  have HZ0 := Lib.hid hz0
  have HZ1 := Lib.hid hz1
  have HZ2 := Lib.hid hz2
  clear hi0 hz0 hz1 hz2
  go_enter Try.func17, Try.ntmps17
  go_upto_region 2 with fail
  have HCU := Lib.hid (curS_new w A len cap)
  have hg : w.heap.size < (w.alloc (.cells #[.slice A len cap, .int .i64 0, .int .u64 0] 46)).heap.size := by simp
  have hww : w.heap.size ≤ (w.alloc (.cells #[.slice A len cap, .int .i64 0, .int .u64 0] 46)).heap.size := by simp
  generalize w.alloc (.cells #[.slice A len cap, .int .i64 0, .int .u64 0] 46) = W at *
  go_upto_region 3 with fail
  have HJ : Hid (JS w W w.heap.size A len cap 0 (.slice (some ⟨W.heap.size, 0, none⟩) 0 0) [] (W.alloc (.cells #[] 9))) := ⟨strs_lit W [] #[] 0 rfl rfl (by decide), hg, CurS.alloc HCU.out _, by simp, hww⟩
  clear HCU hg hww
  generalize Value.slice (some ⟨W.heap.size, 0, none⟩) 0 0 = v0 at *
  generalize W.alloc (.cells #[] 9) = W1 at *
  go_wp2_with fail
  refine (spec_pick 4 (by omega) (by omega) w _ w.heap.size A len cap 0 HC.out (by omega) HJ.out.2.2.1).mono ?_
  rintro e w1 ⟨z, rfl, hz0, hz1, hg1, hc1⟩
  have HJ1 := Lib.hid (HJ.out.call hg1 hc1)
  obtain ⟨m, rfl⟩ : ∃ m : Nat, z = (m : Int) := ⟨z.toNat, by omega⟩
  clear HJ hg1 hc1
  go_wp2
  go_loopw [5, 7] (fun v i wr => ∃ (k : Nat) (xs : List ByteArray), i = .int .i64 k ∧ k ≤ m ∧ xs.length = k ∧ sumS xs ≤ 20 * k ∧ Hid (JS w W w.heap.size A len cap (2 + 2 * k) v xs wr)) (fun _ i _ => m - (intOf i).toNat)
  case atStart => exact ⟨0, [], rfl, Nat.zero_le _, rfl, by simp [sumS], HJ1⟩
  case round =>
    obtain ⟨k, xs, rfl, hk, hxl, hsum, hj⟩ := hrel
    clear HJ1
    by_cases hlt : k < m
    · go_wp2_with fail
      refine (spec_any1 w _ w.heap.size A len cap _ HC.out (by omega) hj.out.2.2.1).mono ?_
      rintro e w2 ⟨y, rfl, hy, hg2, hc2⟩
      have hys := anys_size hy
      have HJ2 := Lib.hid (hj.out.call hg2 hc2)
      have hzz := HJ2.out.2.2.2.1
      clear hy hg2 hc2 hj
      go_wp2_with (at_builtin; refine wp_appendS rfl _ _ rfl _ xs _ _ rfl rfl HJ2.out.1 hzz (by omega) ?_; intro v' w3 hi3 hg3)
      have HJ3 := Lib.hid (HJ2.out.app hi3 hg3)
      clear hi3 hg3 HJ2
      go_roundw
      case rel => exact ⟨k + 1, xs ++ [y], by go_num, by omega, by simp; omega, by rw [sumS_app]; omega, Lib.hid (HJ3.out.more (by omega))⟩
      case measure => simp [intOf]; omega
    · obtain rfl : k = m := by omega
      subst hxl
      go_wp2_with fail
      refine (spec_one 20 (by omega) (by omega) w _ w.heap.size A len cap _ HC.out (by omega) hj.out.2.2.1).mono ?_
      rintro e w2 ⟨b, rfl, hg2, hc2⟩
      have HJ2 := Lib.hid (hj.out.call hg2 hc2)
      clear hg2 hc2 hj
      go_upto_if 25 with fail
      go_cut [5] from 26 (fun v' w' => ∃ (ys : List ByteArray), ys.length ≤ 5 ∧ sumS ys ≤ 5000 ∧ Hid (JS w W w.heap.size A len cap 20 v' ys w'))
      case first =>
        cases b
        · go_wp2_with fail
          go_meet
          case rel => exact ⟨xs, by omega, by omega, Lib.hid (HJ2.out.more (by omega))⟩
        · go_wp2_with fail
          refine (spec_pick 20 (by omega) (by omega) w _ w.heap.size A len cap _ HC.out (by omega) HJ2.out.2.2.1).mono ?_
          rintro e w3 ⟨z, rfl, hz0, hz1, hg3, hc3⟩
          have HJ3 := Lib.hid (HJ2.out.call hg3 hc3)
          obtain ⟨q, rfl⟩ : ∃ q : Nat, z = (q : Int) := ⟨z.toNat, by omega⟩
          clear hg3 hc3 HJ2
          have hz3 := HJ3.out.2.2.2.1
          go_wp2_with (first | (refine wpList_make_full _ rfl _ _ 32 rfl w3.heap.size 5 i0 (.int .u8 0) 1 Try.underlying32 HI0.out HZ0.out HZ1.out .i64 .i64 _ _ (3990 + q) rfl rfl (by omega) (by omega) (by rw [HZ2.out]; omega) (by unfold maxLen; omega) (Nat.le_refl _) ?_; intro w4 hown hg4; have hcv := run_convert_bytes_arg (P := Try.prog) w4 32 5 Try.underlying32 Try.underlying5 w3.heap.size 0 (3990 + q) (3990 + q) (List.replicate (3990 + q) 0) (by simp) (fun i hi => by rw [Nat.zero_add, hown.cellAt i (by omega), Nat.mul_one, show (madeCells (Value.int .u8 0).cells (3990 + q)).toList = List.replicate (3990 + q) (Value.int .u8 0) from toList_madeCells_one _ _]; simp [hi]) 9 Try.underlying9; have hb4 : Below w3.heap.size w3 w4 := (Below.refl _ _).grown hg4 (Nat.le_refl _) (fun k hk => by cases hk); have HJ4 := Lib.hid (HJ3.out.below hb4); clear hown hg4 hb4 HJ3) | (at_builtin; have hzz := HJ4.out.2.2.2.1; refine wp_appendS rfl _ _ rfl _ xs _ _ rfl rfl HJ4.out.1 hzz (by omega) ?_; intro v' w5 hi5 hg5))
          have HJ5 := Lib.hid (HJ4.out.app hi5 hg5)
          have hns := nums_size (3990 + q)
          have HNS := Lib.hid hns
          clear hi5 hg5 HJ4 hns hcv
          go_meet
          case rel => exact ⟨xs ++ [strOfNums (List.replicate (3990 + q) 0)], by simp; omega, by rw [sumS_app, HNS.out]; omega, Lib.hid (HJ5.out.more (by omega))⟩
      case rest =>
        obtain ⟨ys, hys, hsy, HJy⟩ := hcut
        go_wp2_with fail
        have hb := (Below.refl wc.heap.size wc).alloc (Nat.le_refl _) (.cells (seps2.map Value.string).toArray 9)
        refine (spec_of _ seps2 wc.heap.size w _ w.heap.size A len cap 20 (strs_lit wc seps2 _ 5 rfl rfl (by decide)) (HJy.out.2.2.1.2.1) (by decide) (by decide) HC.out (by omega) (HJy.out.2.2.1.below hb)).mono ?_
        rintro e w5 ⟨u, rfl, hu, hg5, hc5⟩
        have hus := seps2_size hu
        have HJ5 := Lib.hid ((HJy.out.below hb).call hg5 hc5)
        clear hb hu hg5 hc5
        go_wp2
        go_ret2
        exact ⟨_, ys, u, rfl, HJ5.out.1.base HJ5.out.2.2.2.2, by omega, hus, HJ5.out.2.2.1.2.2.1⟩
/-! ### a split is joined again -/
theorem join_snoc (xs : List (List UInt8)) (y sep : List UInt8) : Lib.join (xs ++ [y]) sep = xs.flatMap (· ++ sep) ++ y := by
  induction xs with
  | nil => simp [Lib.join_one]
  | cons x r ih =>
    rw [List.cons_append, Lib.join_cons]
    cases hr : r ++ [y] with
    | nil => simp at hr
    | cons z t =>
      rw [hr, Lib.join_cons] at ih
      have e : Lib.joinTail sep (z :: t) = sep ++ (z ++ Lib.joinTail sep t) := by simp [Lib.joinTail, List.append_assoc]
      rw [e, ih]
      simp [List.append_assoc]
structure SpInv (s : ByteArray) (b : UInt8) (k : Nat) (o : List ByteArray) (f : Nat) : Prop where
  le : f ≤ k
  parts : ∀ x ∈ o, stands x b = false
  rest : ((s.data.toList.drop f).take (k - f)).any (· == b) = false
  bytes : o.flatMap (fun x => x.data.toList ++ [b]) = s.data.toList.take f
theorem spInv (s : ByteArray) (b : UInt8) (k : Nat) (h : k ≤ s.size) : SpInv s b k (spOut s b k).1 (spOut s b k).2 := by
  induction k with
  | zero => exact ⟨Nat.le_refl _, (fun x hx => by cases hx), by simp [spOut], by simp [spOut]⟩
  | succ k ih =>
    have I := ih (by omega)
    have hl : k < s.data.toList.length := by simp; omega
    have hd : s.data.toList.getD k 0 = s.data.toList[k] := by rw [List.getD_eq_getElem?_getD, List.getElem?_eq_getElem hl]; rfl
    have hle := I.le
    unfold spOut
    by_cases he : s.data.toList.getD k 0 = b
    · rw [if_pos he]
      refine ⟨Nat.le_refl _, fun x hx => ?_, by simp, ?_⟩
      · rw [List.mem_append] at hx
        rcases hx with hx | hx
        · exact I.parts x hx
        · simp at hx
          subst hx
          unfold stands
          rw [Lib.extract_data]
          exact I.rest
      · simp only [List.flatMap_append, List.flatMap_cons, List.flatMap_nil, List.append_nil]
        rw [I.bytes, Lib.extract_data, List.take_succ_eq_append_getElem hl, ← hd, he, ← List.append_assoc]
        congr 1
        rw [← List.take_add]
        congr 1
        omega
    · rw [if_neg he]
      refine ⟨by omega, I.parts, ?_, I.bytes⟩
      have e : k + 1 - (spOut s b k).2 = (k - (spOut s b k).2) + 1 := by omega
      have hlt : k - (spOut s b k).2 < (s.data.toList.drop (spOut s b k).2).length := by rw [List.length_drop]; omega
      rw [e, List.take_succ_eq_append_getElem hlt, List.any_append, I.rest, List.getElem_drop]
      simp only [Bool.false_or, List.any_cons, List.any_nil, Bool.or_false]
      have e2 : (spOut s b k).2 + (k - (spOut s b k).2) = k := by omega
      simp only [e2]
      rw [← hd]
      simpa using he
theorem split_parts (s : ByteArray) (b : UInt8) : ∀ x ∈ splitS s b, stands x b = false := by
  have I := spInv s b s.size (Nat.le_refl _)
  intro x hx
  unfold splitS at hx
  rw [List.mem_append] at hx
  rcases hx with hx | hx
  · exact I.parts x hx
  · simp at hx
    subst hx
    unfold stands
    rw [Lib.extract_data]
    exact I.rest
theorem split_join (s sep : ByteArray) (b : UInt8) (h : sep.data.toList = [b]) : jn (splitS s b) sep = s := by
  have I := spInv s b s.size (Nat.le_refl _)
  apply ba_ext
  rw [jn_toList, h]
  unfold splitS
  have e : ∀ f, (s.data.toList.drop f).take (s.size - f) = s.data.toList.drop f := fun f => List.take_of_length_le (by simp)
  rw [List.map_append, List.map_cons, List.map_nil, join_snoc, List.flatMap_map, I.bytes, Lib.extract_data, e]
  exact List.take_append_drop _ _
theorem sep_one {sep : ByteArray} (h : sep.size = 1) : sep.data.toList = [sep.data.toList.getD 0 0] := by
  have hl : sep.data.toList.length = 1 := by simpa using h
  match hs : sep.data.toList, hl with
  | [x], _ => rfl
theorem okJ_split {s sep : ByteArray} (h1 : sep.size = 1) (hs : s.size ≤ 4000) : okJ (splitS s (sep.data.toList.getD 0 0)) sep = true := by
  have hp : 0 < (splitS s (sep.data.toList.getD 0 0)).length := by unfold splitS; simp
  refine okJ_all h1 hp (fun x hx => split_parts s _ x (List.mem_of_mem_take hx)) ?_
  have q := jn_size (splitS s (sep.data.toList.getD 0 0)) sep h1 _ (Nat.le_refl _)
  rw [List.take_length, split_join s sep _ (sep_one h1)] at q
  omega
theorem less_asym (a b : List UInt8) : (Op.bytesLess a b && Op.bytesLess b a) = false := by
  induction a generalizing b with
  | nil => cases b <;> rfl
  | cons x a ih =>
    cases b with
    | nil => rfl
    | cons y b =>
      have := ih b
      unfold Op.bytesLess
      by_cases h1 : x < y
      · have h2 : ¬ y < x := fun h => by rw [UInt8.lt_iff_toNat_lt] at h h1; omega
        have h3 : (y == x) = false := by
          rw [beq_eq_false_iff_ne]
          rintro rfl
          rw [UInt8.lt_iff_toNat_lt] at h1
          omega
        simp [h1, h2, h3]
      · by_cases h2 : y < x
        · have h3 : (x == y) = false := by
            rw [beq_eq_false_iff_ne]
            rintro rfl
            rw [UInt8.lt_iff_toNat_lt] at h2
            omega
          simp [h1, h3]
        · simp only [h1, h2, decide_false, Bool.false_or]
          cases h3 : (x == y)
          · simp
          · rw [beq_iff_eq] at h3
            subst h3
            simpa using this
end Go.Proofs.Ytbaekalebodhaaa
