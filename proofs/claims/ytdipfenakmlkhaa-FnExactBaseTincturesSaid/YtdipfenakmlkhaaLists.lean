/- Contracts of the functions that return lists of integers. Conditions: as each theorem says. -/
import Derived.Test.YtdipfenakmlkhaaRows
import Derived.Test.YtdipfenakmlkhaaGroup
import Derived.Test.YtdipfenakmlkhaaOwn
namespace Go.Proofs.Ytdipfenakmlkhaa
set_option linter.unusedSimpArgs false
set_option linter.unusedVariables false
open Go.ChangeShapes Go.WideShapes Go.ChangeAt Go.RowKit

theorem heap_new (w : World) (o : Obj) (g : Nat) (h : g = w.heap.size) : (w.alloc o).heap[g]? = some o := by
  subst h
  exact heap_alloc_new w o
theorem heap_old (w : World) (o : Obj) (g : Nat) (h : g < w.heap.size) : (w.alloc o).heap[g]? = w.heap[g]? := Below.heap_alloc w o g h
theorem size_drewN' (w : World) (n : Nat) : (w.drewN n).heap.size = w.heap.size := rfl
theorem ints_at (w : World) (B g n : Nat) (xs : List Int) (cs : Array Value) (h : w.heap[g]? = some (.cells cs 3 (0, 0))) (hcs : cs = (xs.map (Value.int .i64)).toArray) (hn : n = xs.length) (hB : B ≤ g) (hm : xs.length ≤ maxLen) :
    Ints w B (.slice (some ⟨g, 0, none⟩) n n) xs := by
  subst hcs hn
  exact ⟨by simp, .inr ⟨g, xs.length, _, rfl, hB, h, Nat.le_refl _, hm, by simp, by rw [List.take_of_length_le (by simp)]⟩⟩

theorem impl_bases (x : Int) (w : World) : Calls Try.prog 66 #[.int .i64 x] w (RetInts1 (basesL x) w) := by
  unfold basesL
  by_cases h8 : x = 8
  · subst h8
    go_enter Try.func66, Try.ntmps66
    go_wp2
    go_ret
    exact ⟨_, rfl, ints_lit _ _ _ _ rfl rfl (by decide), (by repeat (first | (with_reducible exact Below.refl _ _) | (with_reducible assumption) | (with_reducible refine balloc ?_ _) | (with_reducible refine bdrew ?_) | (with_reducible refine bdrewN ?_ _) | (with_reducible refine bset ?_ (by first | omega | (simp; done) | (simp; omega)) _) | (with_reducible refine bstep ?_ (by assumption))))⟩
  by_cases h9 : x = 9
  · subst h9
    go_enter Try.func66, Try.ntmps66
    go_wp2
    go_ret
    exact ⟨_, rfl, ints_lit _ _ _ _ rfl rfl (by decide), (by repeat (first | (with_reducible exact Below.refl _ _) | (with_reducible assumption) | (with_reducible refine balloc ?_ _) | (with_reducible refine bdrew ?_) | (with_reducible refine bdrewN ?_ _) | (with_reducible refine bset ?_ (by first | omega | (simp; done) | (simp; omega)) _) | (with_reducible refine bstep ?_ (by assumption))))⟩
  rw [if_neg h8, if_neg h9]
  have n8 : (x == 8) = false := by simpa using h8
  have n9 : (x == 9) = false := by simpa using h9
  go_enter Try.func66, Try.ntmps66
  go_wp2
  go_ret
  exact ⟨_, rfl, ints_lit _ _ _ _ rfl rfl (by simp [maxLen]), (by repeat (first | (with_reducible exact Below.refl _ _) | (with_reducible assumption) | (with_reducible refine balloc ?_ _) | (with_reducible refine bdrew ?_) | (with_reducible refine bdrewN ?_ _) | (with_reducible refine bset ?_ (by first | omega | (simp; done) | (simp; omega)) _) | (with_reducible refine bstep ?_ (by assumption))))⟩
theorem spec_l2Base (x : Int) (w : World) : Calls Try.prog 65 #[.int .i64 x] w (RetInts1 (basesL x) w) := by
  unfold basesL
  by_cases h8 : x = 8
  · subst h8
    go_enter Try.func65, Try.ntmps65
    go_wp2
    go_ret
    exact ⟨_, rfl, ints_lit _ _ _ _ rfl rfl (by decide), (by repeat (first | (with_reducible exact Below.refl _ _) | (with_reducible assumption) | (with_reducible refine balloc ?_ _) | (with_reducible refine bdrew ?_) | (with_reducible refine bdrewN ?_ _) | (with_reducible refine bset ?_ (by first | omega | (simp; done) | (simp; omega)) _) | (with_reducible refine bstep ?_ (by assumption))))⟩
  by_cases h9 : x = 9
  · subst h9
    go_enter Try.func65, Try.ntmps65
    go_wp2
    go_ret
    exact ⟨_, rfl, ints_lit _ _ _ _ rfl rfl (by decide), (by repeat (first | (with_reducible exact Below.refl _ _) | (with_reducible assumption) | (with_reducible refine balloc ?_ _) | (with_reducible refine bdrew ?_) | (with_reducible refine bdrewN ?_ _) | (with_reducible refine bset ?_ (by first | omega | (simp; done) | (simp; omega)) _) | (with_reducible refine bstep ?_ (by assumption))))⟩
  rw [if_neg h8, if_neg h9]
  have n8 : (x == 8) = false := by simpa using h8
  have n9 : (x == 9) = false := by simpa using h9
  go_enter Try.func65, Try.ntmps65
  go_wp2
  go_ret
  exact ⟨_, rfl, ints_lit _ _ _ _ rfl rfl (by simp [maxLen]), (by repeat (first | (with_reducible exact Below.refl _ _) | (with_reducible assumption) | (with_reducible refine balloc ?_ _) | (with_reducible refine bdrew ?_) | (with_reducible refine bdrewN ?_ _) | (with_reducible refine bset ?_ (by first | omega | (simp; done) | (simp; omega)) _) | (with_reducible refine bstep ?_ (by assumption))))⟩
theorem impl_BaseTinctures (x : Int) (w : World) : Calls Try.prog 26 #[.int .i64 x] w (RetInts (inB 1 x 9) (basesV x) w) := by
  unfold basesV
  cases h : inB 1 x 9
  · go_enter Try.func26, Try.ntmps26
    go_wp2_with (go_at_call 53; refine (impl_IsTincture _ _).mono ?_; rintro e w' ⟨rfl, rfl⟩)
    go_ret2
    exact ⟨_, rfl, Ints.nil _ _, Below.refl _ _⟩
  · go_enter Try.func26, Try.ntmps26
    go_wp2_with (first | (go_at_call 53; refine (impl_IsTincture _ _).mono ?_; rintro e w' ⟨rfl, rfl⟩) | (go_at_call 66; refine (impl_bases _ _).mono ?_; rintro e w1 ⟨v, rfl, hi, hb1⟩))
    go_ret2
    exact ⟨_, rfl, hi, hb1⟩
theorem spec_BaseTinctures (x : Int) (w : World) : Calls Try.prog 25 #[.int .i64 x] w (RetInts (inB 1 x 9) (basesV x) w) := by
  unfold basesV
  cases h : inB 1 x 9
  · go_enter Try.func25, Try.ntmps25
    go_wp2_with (go_at_call 57; refine (spec_l2Good _ _).mono ?_; rintro e w' ⟨rfl, rfl⟩)
    go_ret2
    exact ⟨_, rfl, ints_lit _ _ _ _ rfl rfl (by decide), (by repeat (first | (with_reducible exact Below.refl _ _) | (with_reducible assumption) | (with_reducible refine balloc ?_ _) | (with_reducible refine bdrew ?_) | (with_reducible refine bdrewN ?_ _) | (with_reducible refine bset ?_ (by first | omega | (simp; done) | (simp; omega)) _) | (with_reducible refine bstep ?_ (by assumption))))⟩
  · go_enter Try.func25, Try.ntmps25
    go_wp2_with (first | (go_at_call 57; refine (spec_l2Good _ _).mono ?_; rintro e w' ⟨rfl, rfl⟩) | (go_at_call 65; refine (spec_l2Base _ _).mono ?_; rintro e w1 ⟨v, rfl, hi, hb1⟩))
    go_ret2
    exact ⟨_, rfl, hi, hb1⟩
set_option maxHeartbeats 1000000 in
theorem impl_rows (c : Int) (h : inB 1 c 6 = true) (w : World) : Calls Try.prog 64 #[.int .i64 c] w (RetInts1 (rowsL c) w) := by
  rcases six h with rfl | rfl | rfl | rfl | rfl | rfl
  all_goals
    clear h
    go_enter Try.func64, Try.ntmps64
    go_wp2
    go_ret
    exact ⟨_, rfl, ints_at _ _ _ _ _ _ (by repeat (first | exact heap_new _ _ _ (by simp; done) | rw [heap_old _ _ _ (by simp <;> omega)])) rfl rfl (by omega) (by decide), (by repeat (first | (with_reducible exact Below.refl _ _) | (with_reducible assumption) | (with_reducible refine balloc ?_ _) | (with_reducible refine bdrew ?_) | (with_reducible refine bdrewN ?_ _) | (with_reducible refine bset ?_ (by first | omega | (simp; done) | (simp; omega)) _) | (with_reducible refine bstep ?_ (by assumption))))⟩
theorem spec_l4Rows (c : Int) (h : inB 1 c 6 = true) (w : World) : Calls Try.prog 63 #[.int .i64 c] w (RetInts1 (rowsL c) w) := by
  rcases six h with rfl | rfl | rfl | rfl | rfl | rfl
  all_goals
    clear h
    go_enter Try.func63, Try.ntmps63
    go_wp2
    go_ret
    exact ⟨_, rfl, ints_lit _ _ _ _ rfl rfl (by decide), (by repeat (first | (with_reducible exact Below.refl _ _) | (with_reducible assumption) | (with_reducible refine balloc ?_ _) | (with_reducible refine bdrew ?_) | (with_reducible refine bdrewN ?_ _) | (with_reducible refine bset ?_ (by first | omega | (simp; done) | (simp; omega)) _) | (with_reducible refine bstep ?_ (by assumption))))⟩
theorem impl_RowsOf (x : Int) (w : World) : Calls Try.prog 21 #[.int .i64 x] w (RetInts (inB 1 x 6) (rowsV x) w) := by
  unfold rowsV
  cases h : inB 1 x 6
  · go_enter Try.func21, Try.ntmps21
    go_wp2_with (go_at_call 51; refine (impl_inside _ _ _ _).mono ?_; rintro e w' ⟨rfl, rfl⟩)
    go_ret2
    exact ⟨_, rfl, Ints.nil _ _, Below.refl _ _⟩
  · go_enter Try.func21, Try.ntmps21
    go_wp2_with (first | (go_at_call 51; refine (impl_inside _ _ _ _).mono ?_; rintro e w' ⟨rfl, rfl⟩) | (go_at_call 64; refine (impl_rows _ h _).mono ?_; rintro e w1 ⟨v, rfl, hi, hb1⟩))
    go_ret2
    exact ⟨_, rfl, hi, hb1⟩
theorem spec_RowsOf (x : Int) (w : World) : Calls Try.prog 20 #[.int .i64 x] w (RetInts (inB 1 x 6) (rowsV x) w) := by
  unfold rowsV
  cases h : inB 1 x 6
  · go_enter Try.func20, Try.ntmps20
    go_wp2_with (go_at_call 55; refine (spec_l1In _ _ _ _).mono ?_; rintro e w' ⟨rfl, rfl⟩)
    go_ret2
    exact ⟨_, rfl, ints_lit _ _ _ _ rfl rfl (by decide), (by repeat (first | (with_reducible exact Below.refl _ _) | (with_reducible assumption) | (with_reducible refine balloc ?_ _) | (with_reducible refine bdrew ?_) | (with_reducible refine bdrewN ?_ _) | (with_reducible refine bset ?_ (by first | omega | (simp; done) | (simp; omega)) _) | (with_reducible refine bstep ?_ (by assumption))))⟩
  · go_enter Try.func20, Try.ntmps20
    go_wp2_with (first | (go_at_call 55; refine (spec_l1In _ _ _ _).mono ?_; rintro e w' ⟨rfl, rfl⟩) | (go_at_call 63; refine (spec_l4Rows _ h _).mono ?_; rintro e w1 ⟨v, rfl, hi, hb1⟩))
    go_ret2
    exact ⟨_, rfl, hi, hb1⟩
theorem impl_Field_tinctures (d l a b : Int) (w : World) : Calls Try.prog 79 #[.agg #[.int .i64 d, .int .i64 l, .int .i64 a, .int .i64 b]] w (RetInts1 (ftL d a b) w) := by
  by_cases h : d = 0
  · subst h
    rw [show ftL 0 a b = [a] from rfl]
    go_enter Try.func79, Try.ntmps79
    go_wp2
    go_ret
    exact ⟨_, rfl, ints_at _ _ (w.heap.size + 1) _ [a] _ (by repeat (first | exact heap_new _ _ _ (by simp; done) | rw [heap_old _ _ _ (by simp <;> omega)])) rfl rfl (by omega) (by simp [maxLen]), (by repeat (first | (with_reducible exact Below.refl _ _) | (with_reducible assumption) | (with_reducible refine balloc ?_ _) | (with_reducible refine bdrew ?_) | (with_reducible refine bdrewN ?_ _) | (with_reducible refine bset ?_ (by first | omega | (simp; done) | (simp; omega)) _) | (with_reducible refine bstep ?_ (by assumption))))⟩
  · rw [show ftL d a b = [a, b] from if_neg h]
    have n : (d == 0) = false := by simpa using h
    go_enter Try.func79, Try.ntmps79
    go_wp2
    go_ret
    exact ⟨_, rfl, ints_at _ _ (w.heap.size + 1) _ [a, b] _ (by repeat (first | exact heap_new _ _ _ (by simp; done) | rw [heap_old _ _ _ (by simp <;> omega)])) rfl rfl (by omega) (by simp [maxLen]), (by repeat (first | (with_reducible exact Below.refl _ _) | (with_reducible assumption) | (with_reducible refine balloc ?_ _) | (with_reducible refine bdrew ?_) | (with_reducible refine bdrewN ?_ _) | (with_reducible refine bset ?_ (by first | omega | (simp; done) | (simp; omega)) _) | (with_reducible refine bstep ?_ (by assumption))))⟩
theorem spec_l3Tinctures (d l a b : Int) (w : World) : Calls Try.prog 78 #[.agg #[.int .i64 d, .int .i64 l, .int .i64 a, .int .i64 b]] w (RetInts1 (ftL d a b) w) := by
  by_cases h : d = 0
  · subst h
    rw [show ftL 0 a b = [a] from rfl]
    go_enter Try.func78, Try.ntmps78
    go_wp2
    go_ret
    exact ⟨_, rfl, ints_at _ _ (w.heap.size + 1) _ [a] _ (by repeat (first | exact heap_new _ _ _ (by simp; done) | rw [heap_old _ _ _ (by simp <;> omega)])) rfl rfl (by omega) (by simp [maxLen]), (by repeat (first | (with_reducible exact Below.refl _ _) | (with_reducible assumption) | (with_reducible refine balloc ?_ _) | (with_reducible refine bdrew ?_) | (with_reducible refine bdrewN ?_ _) | (with_reducible refine bset ?_ (by first | omega | (simp; done) | (simp; omega)) _) | (with_reducible refine bstep ?_ (by assumption))))⟩
  · rw [show ftL d a b = [a, b] from if_neg h]
    have n : (d == 0) = false := by simpa using h
    go_enter Try.func78, Try.ntmps78
    go_wp2
    go_ret
    exact ⟨_, rfl, ints_at _ _ (w.heap.size + 1) _ [a, b] _ (by repeat (first | exact heap_new _ _ _ (by simp; done) | rw [heap_old _ _ _ (by simp <;> omega)])) rfl rfl (by omega) (by simp [maxLen]), (by repeat (first | (with_reducible exact Below.refl _ _) | (with_reducible assumption) | (with_reducible refine balloc ?_ _) | (with_reducible refine bdrew ?_) | (with_reducible refine bdrewN ?_ _) | (with_reducible refine bset ?_ (by first | omega | (simp; done) | (simp; omega)) _) | (with_reducible refine bstep ?_ (by assumption))))⟩
theorem impl_FieldTinctures (d l a b : Int) (w : World) : Calls Try.prog 47 #[.agg #[.int .i64 d, .int .i64 l, .int .i64 a, .int .i64 b]] w (RetInts (fieldOk d l a b) (ftV d l a b) w) := by
  unfold ftV
  cases h : fieldOk d l a b
  · go_enter Try.func47, Try.ntmps47
    go_wp2_with (go_at_call 72; refine (impl_IsValidField _ _ _ _ _).mono ?_; rintro e w1 ⟨rfl, hb1⟩)
    go_ret2
    exact ⟨_, rfl, Ints.nil _ _, (by repeat (first | (with_reducible exact Below.refl _ _) | (with_reducible assumption) | (with_reducible refine balloc ?_ _) | (with_reducible refine bdrew ?_) | (with_reducible refine bdrewN ?_ _) | (with_reducible refine bset ?_ (by first | omega | (simp; done) | (simp; omega)) _) | (with_reducible refine bstep ?_ (by assumption))))⟩
  · go_enter Try.func47, Try.ntmps47
    go_wp2_with (go_at_call 72; refine (impl_IsValidField _ _ _ _ _).mono ?_; rintro e w1 ⟨rfl, hb1⟩; have B1 := blk_new hb1; obtain ⟨c1, z1⟩ := B1.facts)
    refine (impl_Field_tinctures _ _ _ _ _).mono ?_
    rintro e w2 ⟨v, rfl, hi, hb2⟩
    go_wp2
    go_ret2
    exact ⟨_, rfl, hi.base (B' := w.heap.size) (by omega), (by repeat (first | (with_reducible exact Below.refl _ _) | (with_reducible assumption) | (with_reducible refine balloc ?_ _) | (with_reducible refine bdrew ?_) | (with_reducible refine bdrewN ?_ _) | (with_reducible refine bset ?_ (by first | omega | (simp; done) | (simp; omega)) _) | (with_reducible refine bstep ?_ (by assumption))))⟩
theorem spec_FieldTinctures (d l a b : Int) (w : World) : Calls Try.prog 46 #[.agg #[.int .i64 d, .int .i64 l, .int .i64 a, .int .i64 b]] w (RetInts (fieldOk d l a b) (ftV d l a b) w) := by
  unfold ftV
  cases h : fieldOk d l a b
  · go_enter Try.func46, Try.ntmps46
    go_wp2_with (go_at_call 71; refine (spec_l3Good _ _ _ _ _).mono ?_; rintro e w1 ⟨rfl, hb1⟩)
    go_ret2
    exact ⟨_, rfl, (ints_lit w1 _ _ _ rfl rfl (by decide)).base (B' := w.heap.size) (by have := hb1.size; simp at this; omega), (by repeat (first | (with_reducible exact Below.refl _ _) | (with_reducible assumption) | (with_reducible refine balloc ?_ _) | (with_reducible refine bdrew ?_) | (with_reducible refine bdrewN ?_ _) | (with_reducible refine bset ?_ (by first | omega | (simp; done) | (simp; omega)) _) | (with_reducible refine bstep ?_ (by assumption))))⟩
  · go_enter Try.func46, Try.ntmps46
    go_wp2_with (go_at_call 71; refine (spec_l3Good _ _ _ _ _).mono ?_; rintro e w1 ⟨rfl, hb1⟩; have B1 := blk_new hb1; obtain ⟨c1, z1⟩ := B1.facts)
    refine (spec_l3Tinctures _ _ _ _ _).mono ?_
    rintro e w2 ⟨v, rfl, hi, hb2⟩
    go_wp2
    go_ret2
    exact ⟨_, rfl, hi.base (B' := w.heap.size) (by omega), (by repeat (first | (with_reducible exact Below.refl _ _) | (with_reducible assumption) | (with_reducible refine balloc ?_ _) | (with_reducible refine bdrew ?_) | (with_reducible refine bdrewN ?_ _) | (with_reducible refine bset ?_ (by first | omega | (simp; done) | (simp; omega)) _) | (with_reducible refine bstep ?_ (by assumption))))⟩
theorem impl_TincturesAgainst (x : Int) (w : World) : Calls Try.prog 42 #[.int .i64 x] w (RetInts (inB 1 x 9) (againstV x) w) := by
  unfold againstV
  cases h : inB 1 x 9
  · go_enter Try.func42, Try.ntmps42
    go_wp2_with (go_at_call 53; refine (impl_IsTincture _ _).mono ?_; rintro e w' ⟨rfl, rfl⟩)
    go_ret2
    exact ⟨_, rfl, Ints.nil _ _, (by repeat (first | (with_reducible exact Below.refl _ _) | (with_reducible assumption) | (with_reducible refine balloc ?_ _) | (with_reducible refine bdrew ?_) | (with_reducible refine bdrewN ?_ _) | (with_reducible refine bset ?_ (by first | omega | (simp; done) | (simp; omega)) _) | (with_reducible refine bstep ?_ (by assumption))))⟩
  · go_enter Try.func42, Try.ntmps42
    go_wp2_with (go_at_call 53; refine (impl_IsTincture _ _).mono ?_; rintro e w' ⟨rfl, rfl⟩)
    go_loopw [4, 5] (fun v y wr => ∃ k : Nat, k ≤ 9 ∧ y = .int .i64 ((k : Int) + 1) ∧ Hid (Ints wr w.heap.size v (againstTo x k)) ∧ Hid (Below w.heap.size w wr)) (fun _ y _ => 10 - (intOf y).toNat)
    case atStart => exact ⟨0, Nat.zero_le _, rfl, ints_lit w [] #[] 0 rfl rfl (by decide), balloc (Below.refl _ _) _⟩
    case round =>
      obtain ⟨k, hk, rfl, hi, hb⟩ := hrel
      by_cases hlt : k < 9
      · have HS := Lib.hid (againstTo_succ x k)
        have hl := againstTo_len x k
        cases he : tclash x ((k : Int) + 1)
        · rw [he] at HS
          go_wp2_with (first | (go_at_call 74; refine (impl_clash _ _ _).mono ?_; rintro e w' ⟨rfl, rfl⟩) | (at_builtin; refine wp_append1 rfl _ _ rfl _ _ _ rfl rfl hi.out hb.out (by omega) ?_; intro v' w1 hi1 hb1))
          go_roundw
          case rel => exact ⟨k + 1, by omega, by go_num, by rw [HS.out]; exact hi1, hb1⟩
          case measure => simp [intOf]; omega
        · rw [he] at HS
          go_wp2_with (go_at_call 74; refine (impl_clash _ _ _).mono ?_; rintro e w' ⟨rfl, rfl⟩)
          go_roundw
          case rel => exact ⟨k + 1, by omega, by go_num, by rw [HS.out]; show Ints _ _ _ _; simpa using hi.out, hb.out⟩
          case measure => simp [intOf]; omega
      · obtain rfl : k = 9 := by omega
        go_wp2
        go_ret2
        exact ⟨_, rfl, hi.out, hb.out⟩
theorem spec_TincturesAgainst (x : Int) (w : World) : Calls Try.prog 41 #[.int .i64 x] w (RetInts (inB 1 x 9) (againstV x) w) := by
  unfold againstV
  cases h : inB 1 x 9
  · go_enter Try.func41, Try.ntmps41
    go_wp2_with (go_at_call 57; refine (spec_l2Good _ _).mono ?_; rintro e w' ⟨rfl, rfl⟩)
    go_ret2
    exact ⟨_, rfl, ints_lit w [] #[] 0 rfl rfl (by decide), (by repeat (first | (with_reducible exact Below.refl _ _) | (with_reducible assumption) | (with_reducible refine balloc ?_ _) | (with_reducible refine bdrew ?_) | (with_reducible refine bdrewN ?_ _) | (with_reducible refine bset ?_ (by first | omega | (simp; done) | (simp; omega)) _) | (with_reducible refine bstep ?_ (by assumption))))⟩
  · go_enter Try.func41, Try.ntmps41
    go_wp2_with (go_at_call 57; refine (spec_l2Good _ _).mono ?_; rintro e w' ⟨rfl, rfl⟩)
    go_loopw [4, 5] (fun v y wr => ∃ k : Nat, k ≤ 9 ∧ y = .int .i64 ((k : Int) + 1) ∧ Hid (Ints wr w.heap.size v (againstTo x k)) ∧ Hid (Below w.heap.size w wr)) (fun _ y _ => 10 - (intOf y).toNat)
    case atStart => exact ⟨0, Nat.zero_le _, rfl, ints_lit w [] #[] 0 rfl rfl (by decide), balloc (Below.refl _ _) _⟩
    case round =>
      obtain ⟨k, hk, rfl, hi, hb⟩ := hrel
      by_cases hlt : k < 9
      · have HS := Lib.hid (againstTo_succ x k)
        have hl := againstTo_len x k
        cases he : tclash x ((k : Int) + 1)
        · rw [he] at HS
          go_wp2_with (first | (go_at_call 73; refine (spec_l2Clash _ _ _).mono ?_; rintro e w' ⟨rfl, rfl⟩) | (at_builtin; refine wp_append1 rfl _ _ rfl _ _ _ rfl rfl hi.out hb.out (by omega) ?_; intro v' w1 hi1 hb1))
          go_roundw
          case rel => exact ⟨k + 1, by omega, by go_num, by rw [HS.out]; exact hi1, hb1⟩
          case measure => simp [intOf]; omega
        · rw [he] at HS
          go_wp2_with (go_at_call 73; refine (spec_l2Clash _ _ _).mono ?_; rintro e w' ⟨rfl, rfl⟩)
          go_roundw
          case rel => exact ⟨k + 1, by omega, by go_num, by rw [HS.out]; show Ints _ _ _ _; simpa using hi.out, hb.out⟩
          case measure => simp [intOf]; omega
      · obtain rfl : k = 9 := by omega
        go_wp2
        go_ret2
        exact ⟨_, rfl, hi.out, hb.out⟩
set_option maxHeartbeats 1000000 in
theorem impl_FieldParts (d l a b : Int) (w : World) : Calls Try.prog 49 #[.agg #[.int .i64 d, .int .i64 l, .int .i64 a, .int .i64 b]] w (RetInts (fieldOk d l a b) (fpV d l a b) w) := by
  unfold fpV
  cases h : fieldOk d l a b
  · go_enter Try.func49, Try.ntmps49
    go_wp2_with (go_at_call 72; refine (impl_IsValidField _ _ _ _ _).mono ?_; rintro e w1 ⟨rfl, hb1⟩)
    go_ret2
    exact ⟨_, rfl, Ints.nil _ _, (by repeat (first | (with_reducible exact Below.refl _ _) | (with_reducible assumption) | (with_reducible refine balloc ?_ _) | (with_reducible refine bdrew ?_) | (with_reducible refine bdrewN ?_ _) | (with_reducible refine bset ?_ (by first | omega | (simp; done) | (simp; omega)) _) | (with_reducible refine bstep ?_ (by assumption))))⟩
  · have hd : d = 0 ∨ d = 1 ∨ d = 2 ∨ d = 3 ∨ d = 4 ∨ d = 5 ∨ d = 6 ∨ d = 7 := by
      unfold fieldOk at h
      simp only [Bool.and_eq_true] at h
      have := inB_true.1 h.1
      omega
    unfold fpL
    rcases hd with rfl | rfl | rfl | rfl | rfl | rfl | rfl | rfl
    all_goals
      go_enter Try.func49, Try.ntmps49
      go_wp2_with (go_at_call 72; refine (impl_IsValidField _ _ _ _ _).mono ?_; rintro e w1 ⟨rfl, hb1⟩; have B1 := blk_new hb1; obtain ⟨c1, z1⟩ := B1.facts)
      go_quiet (fail)
      go_wp2
      go_ret2
      exact ⟨_, rfl, Ints.drewN ((ints_lit w1 _ _ _ rfl rfl (by simp [maxLen])).base (B' := w.heap.size) (by omega)) _, (by repeat (first | (with_reducible exact Below.refl _ _) | (with_reducible assumption) | (with_reducible refine balloc ?_ _) | (with_reducible refine bdrew ?_) | (with_reducible refine bdrewN ?_ _) | (with_reducible refine bset ?_ (by first | omega | (simp; done) | (simp; omega)) _) | (with_reducible refine bstep ?_ (by assumption))))⟩
set_option maxHeartbeats 1000000 in
theorem spec_l3Parts (d a b l : Int) (hd : inB 0 d 7 = true) (w : World) : Calls Try.prog 80 #[.agg #[.int .i64 d, .int .i64 l, .int .i64 a, .int .i64 b]] w (RetInts1 (fpL d a b) w) := by
  have hd : d = 0 ∨ d = 1 ∨ d = 2 ∨ d = 3 ∨ d = 4 ∨ d = 5 ∨ d = 6 ∨ d = 7 := by
    have := inB_true.1 hd
    omega
  unfold fpL
  rcases hd with rfl | rfl | rfl | rfl | rfl | rfl | rfl | rfl
  all_goals
    go_enter Try.func80, Try.ntmps80
    go_wp2
    go_quiet (fail)
    go_wp2
    go_ret
    exact ⟨_, rfl, ints_at _ _ (w.heap.size + 1) _ _ _ (heap_new _ _ _ (by rw [size_drewN']; simp)) rfl rfl (by omega) (by simp [maxLen]), (by repeat (first | (with_reducible exact Below.refl _ _) | (with_reducible assumption) | (with_reducible refine balloc ?_ _) | (with_reducible refine bdrew ?_) | (with_reducible refine bdrewN ?_ _) | (with_reducible refine bset ?_ (by first | omega | (simp; done) | (simp; omega)) _) | (with_reducible refine bstep ?_ (by assumption))))⟩
theorem spec_FieldParts (d l a b : Int) (w : World) : Calls Try.prog 48 #[.agg #[.int .i64 d, .int .i64 l, .int .i64 a, .int .i64 b]] w (RetInts (fieldOk d l a b) (fpV d l a b) w) := by
  unfold fpV
  cases h : fieldOk d l a b
  · go_enter Try.func48, Try.ntmps48
    go_wp2_with (go_at_call 71; refine (spec_l3Good _ _ _ _ _).mono ?_; rintro e w1 ⟨rfl, hb1⟩)
    go_ret2
    exact ⟨_, rfl, (ints_lit w1 _ _ _ rfl rfl (by decide)).base (B' := w.heap.size) (by have := hb1.size; simp at this; omega), (by repeat (first | (with_reducible exact Below.refl _ _) | (with_reducible assumption) | (with_reducible refine balloc ?_ _) | (with_reducible refine bdrew ?_) | (with_reducible refine bdrewN ?_ _) | (with_reducible refine bset ?_ (by first | omega | (simp; done) | (simp; omega)) _) | (with_reducible refine bstep ?_ (by assumption))))⟩
  · have hd : Hid (inB 0 d 7 = true) := by
      unfold fieldOk at h
      simp only [Bool.and_eq_true] at h
      exact h.1
    go_enter Try.func48, Try.ntmps48
    go_wp2_with (go_at_call 71; refine (spec_l3Good _ _ _ _ _).mono ?_; rintro e w1 ⟨rfl, hb1⟩; have B1 := blk_new hb1; obtain ⟨c1, z1⟩ := B1.facts)
    refine (spec_l3Parts _ _ _ _ hd.out _).mono ?_
    rintro e w2 ⟨v, rfl, hi, hb2⟩
    go_wp2
    go_ret2
    exact ⟨_, rfl, hi.base (B' := w.heap.size) (by omega), (by repeat (first | (with_reducible exact Below.refl _ _) | (with_reducible assumption) | (with_reducible refine balloc ?_ _) | (with_reducible refine bdrew ?_) | (with_reducible refine bdrewN ?_ _) | (with_reducible refine bset ?_ (by first | omega | (simp; done) | (simp; omega)) _) | (with_reducible refine bstep ?_ (by assumption))))⟩
end Go.Proofs.Ytdipfenakmlkhaa
