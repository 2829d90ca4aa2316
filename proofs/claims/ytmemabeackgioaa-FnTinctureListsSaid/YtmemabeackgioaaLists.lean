/- Contracts of the functions that return lists of integers. Conditions: as each theorem says. -/
import Derived.Test.YtmemabeackgioaaRows
import Derived.Test.YtmemabeackgioaaGroup
import Derived.Test.YtmemabeackgioaaOwn
namespace Go.Proofs.Ytmemabeackgioaa
set_option linter.unusedSimpArgs false
set_option linter.unusedVariables false
open Go.ChangeShapes Go.WideShapes Go.ChangeAt Go.RowKit

theorem heap_new (w : World) (o : Obj) (g : Nat) (h : g = w.heap.size) : (w.alloc o).heap[g]? = some o := by
  subst h
  exact heap_alloc_new w o
theorem heap_old (w : World) (o : Obj) (g : Nat) (h : g < w.heap.size) : (w.alloc o).heap[g]? = w.heap[g]? := Below.heap_alloc w o g h
theorem size_drewN' (w : World) (n : Nat) : (w.drewN n).heap.size = w.heap.size := rfl
theorem ints_at (w : World) (B g n : Nat) (xs : List Int) (cs : Array Value) (h : w.heap[g]? = some (.cells cs 3 (0, 0))) (hcs : cs = (xs.map (Value.int .i64)).toArray) (hn : n = xs.length) (hB : B ≤ g) (hm : xs.length ≤ maxLen) :
    Ints w B (.slice (some ⟨g, 0, none⟩) n n) xs := by
  subst hcs hn
  exact ⟨by simp, .inr ⟨g, xs.length, _, rfl, hB, h, Nat.le_refl _, hm, by simp, by rw [List.take_of_length_le (by simp)]⟩⟩

theorem impl_bases (x : Int) (w : World) : Calls Try.prog 88 #[.int .i64 x] w (RetInts1 (basesL x) w) := by
  unfold basesL
  by_cases h8 : x = 8
  · subst h8
    go_enter Try.func88, Try.ntmps88
    go_wp2
    go_ret
    exact ⟨_, rfl, ints_lit _ _ _ _ rfl rfl (by decide), (by repeat (first | (with_reducible exact Below.refl _ _) | (with_reducible assumption) | (with_reducible refine balloc ?_ _) | (with_reducible refine bdrew ?_) | (with_reducible refine bdrewN ?_ _) | (with_reducible refine bset ?_ (by first | omega | (simp; done) | (simp; omega)) _) | (with_reducible refine bstep ?_ (by assumption))))⟩
  by_cases h9 : x = 9
  · subst h9
    go_enter Try.func88, Try.ntmps88
    go_wp2
    go_ret
    exact ⟨_, rfl, ints_lit _ _ _ _ rfl rfl (by decide), (by repeat (first | (with_reducible exact Below.refl _ _) | (with_reducible assumption) | (with_reducible refine balloc ?_ _) | (with_reducible refine bdrew ?_) | (with_reducible refine bdrewN ?_ _) | (with_reducible refine bset ?_ (by first | omega | (simp; done) | (simp; omega)) _) | (with_reducible refine bstep ?_ (by assumption))))⟩
  rw [if_neg h8, if_neg h9]
  have n8 : (x == 8) = false := by simpa using h8
  have n9 : (x == 9) = false := by simpa using h9
  go_enter Try.func88, Try.ntmps88
  go_wp2
  go_ret
  exact ⟨_, rfl, ints_lit _ _ _ _ rfl rfl (by simp [maxLen]), (by repeat (first | (with_reducible exact Below.refl _ _) | (with_reducible assumption) | (with_reducible refine balloc ?_ _) | (with_reducible refine bdrew ?_) | (with_reducible refine bdrewN ?_ _) | (with_reducible refine bset ?_ (by first | omega | (simp; done) | (simp; omega)) _) | (with_reducible refine bstep ?_ (by assumption))))⟩
theorem spec_l2Base (x : Int) (w : World) : Calls Try.prog 52 #[.int .i64 x] w (RetInts1 (basesL x) w) := by
  unfold basesL
  by_cases h8 : x = 8
  · subst h8
    go_enter Try.func52, Try.ntmps52
    go_wp2
    go_ret
    exact ⟨_, rfl, ints_lit _ _ _ _ rfl rfl (by decide), (by repeat (first | (with_reducible exact Below.refl _ _) | (with_reducible assumption) | (with_reducible refine balloc ?_ _) | (with_reducible refine bdrew ?_) | (with_reducible refine bdrewN ?_ _) | (with_reducible refine bset ?_ (by first | omega | (simp; done) | (simp; omega)) _) | (with_reducible refine bstep ?_ (by assumption))))⟩
  by_cases h9 : x = 9
  · subst h9
    go_enter Try.func52, Try.ntmps52
    go_wp2
    go_ret
    exact ⟨_, rfl, ints_lit _ _ _ _ rfl rfl (by decide), (by repeat (first | (with_reducible exact Below.refl _ _) | (with_reducible assumption) | (with_reducible refine balloc ?_ _) | (with_reducible refine bdrew ?_) | (with_reducible refine bdrewN ?_ _) | (with_reducible refine bset ?_ (by first | omega | (simp; done) | (simp; omega)) _) | (with_reducible refine bstep ?_ (by assumption))))⟩
  rw [if_neg h8, if_neg h9]
  have n8 : (x == 8) = false := by simpa using h8
  have n9 : (x == 9) = false := by simpa using h9
  go_enter Try.func52, Try.ntmps52
  go_wp2
  go_ret
  exact ⟨_, rfl, ints_lit _ _ _ _ rfl rfl (by simp [maxLen]), (by repeat (first | (with_reducible exact Below.refl _ _) | (with_reducible assumption) | (with_reducible refine balloc ?_ _) | (with_reducible refine bdrew ?_) | (with_reducible refine bdrewN ?_ _) | (with_reducible refine bset ?_ (by first | omega | (simp; done) | (simp; omega)) _) | (with_reducible refine bstep ?_ (by assumption))))⟩
theorem impl_Field_tinctures (d l a b : Int) (w : World) : Calls Try.prog 65 #[.agg #[.int .i64 d, .int .i64 l, .int .i64 a, .int .i64 b]] w (RetInts1 (ftL d a b) w) := by
  by_cases h : d = 0
  · subst h
    rw [show ftL 0 a b = [a] from rfl]
    go_enter Try.func65, Try.ntmps65
    go_wp2
    go_ret
    exact ⟨_, rfl, ints_at _ _ (w.heap.size + 1) _ [a] _ (by repeat (first | exact heap_new _ _ _ (by simp; done) | rw [heap_old _ _ _ (by simp <;> omega)])) rfl rfl (by omega) (by simp [maxLen]), (by repeat (first | (with_reducible exact Below.refl _ _) | (with_reducible assumption) | (with_reducible refine balloc ?_ _) | (with_reducible refine bdrew ?_) | (with_reducible refine bdrewN ?_ _) | (with_reducible refine bset ?_ (by first | omega | (simp; done) | (simp; omega)) _) | (with_reducible refine bstep ?_ (by assumption))))⟩
  · rw [show ftL d a b = [a, b] from if_neg h]
    have n : (d == 0) = false := by simpa using h
    go_enter Try.func65, Try.ntmps65
    go_wp2
    go_ret
    exact ⟨_, rfl, ints_at _ _ (w.heap.size + 1) _ [a, b] _ (by repeat (first | exact heap_new _ _ _ (by simp; done) | rw [heap_old _ _ _ (by simp <;> omega)])) rfl rfl (by omega) (by simp [maxLen]), (by repeat (first | (with_reducible exact Below.refl _ _) | (with_reducible assumption) | (with_reducible refine balloc ?_ _) | (with_reducible refine bdrew ?_) | (with_reducible refine bdrewN ?_ _) | (with_reducible refine bset ?_ (by first | omega | (simp; done) | (simp; omega)) _) | (with_reducible refine bstep ?_ (by assumption))))⟩
theorem spec_l3Tinctures (d l a b : Int) (w : World) : Calls Try.prog 78 #[.agg #[.int .i64 d, .int .i64 l, .int .i64 a, .int .i64 b]] w (RetInts1 (ftL d a b) w) := by
  by_cases h : d = 0
  · subst h
    rw [show ftL 0 a b = [a] from rfl]
    go_enter Try.func78, Try.ntmps78
    go_wp2
    go_ret
    exact ⟨_, rfl, ints_at _ _ (w.heap.size + 1) _ [a] _ (by repeat (first | exact heap_new _ _ _ (by simp; done) | rw [heap_old _ _ _ (by simp <;> omega)])) rfl rfl (by omega) (by simp [maxLen]), (by repeat (first | (with_reducible exact Below.refl _ _) | (with_reducible assumption) | (with_reducible refine balloc ?_ _) | (with_reducible refine bdrew ?_) | (with_reducible refine bdrewN ?_ _) | (with_reducible refine bset ?_ (by first | omega | (simp; done) | (simp; omega)) _) | (with_reducible refine bstep ?_ (by assumption))))⟩
  · rw [show ftL d a b = [a, b] from if_neg h]
    have n : (d == 0) = false := by simpa using h
    go_enter Try.func78, Try.ntmps78
    go_wp2
    go_ret
    exact ⟨_, rfl, ints_at _ _ (w.heap.size + 1) _ [a, b] _ (by repeat (first | exact heap_new _ _ _ (by simp; done) | rw [heap_old _ _ _ (by simp <;> omega)])) rfl rfl (by omega) (by simp [maxLen]), (by repeat (first | (with_reducible exact Below.refl _ _) | (with_reducible assumption) | (with_reducible refine balloc ?_ _) | (with_reducible refine bdrew ?_) | (with_reducible refine bdrewN ?_ _) | (with_reducible refine bset ?_ (by first | omega | (simp; done) | (simp; omega)) _) | (with_reducible refine bstep ?_ (by assumption))))⟩
theorem impl_TincturesAgainst (x : Int) (w : World) : Calls Try.prog 41 #[.int .i64 x] w (RetInts (inB 1 x 9) (againstV x) w) := by
  unfold againstV
  cases h : inB 1 x 9
  · go_enter Try.func41, Try.ntmps41
    go_wp2_with (go_at_call 40; refine (impl_IsTincture _ _).mono ?_; rintro e w' ⟨rfl, rfl⟩)
    go_ret2
    exact ⟨_, rfl, Ints.nil _ _, (by repeat (first | (with_reducible exact Below.refl _ _) | (with_reducible assumption) | (with_reducible refine balloc ?_ _) | (with_reducible refine bdrew ?_) | (with_reducible refine bdrewN ?_ _) | (with_reducible refine bset ?_ (by first | omega | (simp; done) | (simp; omega)) _) | (with_reducible refine bstep ?_ (by assumption))))⟩
  · go_enter Try.func41, Try.ntmps41
    go_wp2_with (go_at_call 40; refine (impl_IsTincture _ _).mono ?_; rintro e w' ⟨rfl, rfl⟩)
    go_loopw [4, 5] (fun v y wr => ∃ k : Nat, k ≤ 9 ∧ y = .int .i64 ((k : Int) + 1) ∧ Hid (Ints wr w.heap.size v (againstTo x k)) ∧ Hid (Below w.heap.size w wr)) (fun _ y _ => 10 - (intOf y).toNat)
    case atStart => exact ⟨0, Nat.zero_le _, rfl, ints_lit w [] #[] 0 rfl rfl (by decide), balloc (Below.refl _ _) _⟩
    case round =>
      obtain ⟨k, hk, rfl, hi, hb⟩ := hrel
      by_cases hlt : k < 9
      · have HS := Lib.hid (againstTo_succ x k)
        have hl := againstTo_len x k
        cases he : tclash x ((k : Int) + 1)
        · rw [he] at HS
          go_wp2_with (first | (go_at_call 73; refine (impl_clash _ _ _).mono ?_; rintro e w' ⟨rfl, rfl⟩) | (at_builtin; refine wp_append1 rfl _ _ rfl _ _ _ rfl rfl hi.out hb.out (by omega) ?_; intro v' w1 hi1 hb1))
          go_roundw
          case rel => exact ⟨k + 1, by omega, by go_num, by rw [HS.out]; exact hi1, hb1⟩
          case measure => simp [intOf]; omega
        · rw [he] at HS
          go_wp2_with (go_at_call 73; refine (impl_clash _ _ _).mono ?_; rintro e w' ⟨rfl, rfl⟩)
          go_roundw
          case rel => exact ⟨k + 1, by omega, by go_num, by rw [HS.out]; show Ints _ _ _ _; simpa using hi.out, hb.out⟩
          case measure => simp [intOf]; omega
      · obtain rfl : k = 9 := by omega
        go_wp2
        go_ret2
        exact ⟨_, rfl, hi.out, hb.out⟩
end Go.Proofs.Ytmemabeackgioaa
