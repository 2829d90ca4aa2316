/- Contracts of the functions on tinctures. Conditions: as each theorem says. -/
import Derived.Test.YtbegoaakgbclkaaDoorRows
import Derived.Test.YtbegoaakgbclkaaDoorPlain
namespace Go.Proofs.YtbegoaakgbclkaaDoor
set_option linter.unusedSimpArgs false
set_option linter.unusedVariables false
open Go.ChangeShapes Go.WideShapes Go.ChangeAt Go.RowKit

theorem impl_inside (n lo hi : Int) (w : World) : Calls Tryd.prog 25 #[.int .i64 n, .int .i64 lo, .int .i64 hi] w fun e w' => e = .returned (.bool (inB lo n hi)) ∧ w = w' := by
  unfold inB
  go_enter Tryd.func25, Tryd.ntmps25
  go_wp2
  all_goals go_ret
  · exact ⟨by simp [*], rfl⟩
  · exact ⟨by simp [*]; omega, rfl⟩
theorem impl_IsTincture (n : Int) (w : World) : Calls Tryd.prog 27 #[.int .i64 n] w fun e w' => e = .returned (.bool (inB 1 n 9)) ∧ w = w' := by
  go_enter Tryd.func27, Tryd.ntmps27
  go_wp2_with (go_at_call 25; refine (impl_inside _ _ _ _).mono ?_; rintro e w' ⟨rfl, rfl⟩)
  go_ret
  exact ⟨rfl, rfl⟩
theorem spec_l2Word (x : Int) (h : inB 1 x 9 = true) (w : World) : Calls Tryd.prog 16 #[.int .i64 x] w fun e w' => e = .returned (.string (tw x)) ∧ Below w.heap.size w w' := by
  have hx := tw_at x h
  simp only [twords, List.map_cons, List.map_nil] at hx
  obtain ⟨h1, h2⟩ := inB_true.1 h
  clear h
  go_enter Tryd.func16, Tryd.ntmps16
  go_wp2
  go_ret
  exact ⟨rfl, (by repeat (first | (with_reducible exact Below.refl _ _) | (with_reducible assumption) | (with_reducible refine balloc ?_ _) | (with_reducible refine bdrew ?_) | (with_reducible refine bdrewN ?_ _) | (with_reducible refine bset ?_ (by first | omega | (simp; done) | (simp; omega)) _) | (with_reducible refine bstep ?_ (by assumption))))⟩
theorem slices_Index (g n c : Nat) (ws : List ByteArray) (s : ByteArray) (w : World) (hl : ws.length ≤ maxLen) (hn : n = ws.length)
    (hc : ∀ i, i < ws.length → w.cell? ⟨g, i, none⟩ = some (.string (ws.getD i ⟨#[]⟩))) :
    Calls Tryd.prog 10 #[.slice (some ⟨g, 0, none⟩) n c, .string s] w fun e w' => e = .returned (.int .i64 (idxL ws s 0)) ∧ w = w' := by
  subst hn
  unfold maxLen at hl
  have HC := Lib.hid hc
  clear hc
  go_enter Tryd.func10, Tryd.ntmps10
  go_wp2
  go_loop [8] (fun i => ∃ k : Nat, k ≤ ws.length ∧ i = .int .i64 k ∧ Hid (idxL ws s 0 = idxL (ws.drop k) s k)) (fun i => ws.length - (intOf i).toNat)
  case atStart => exact ⟨0, Nat.zero_le _, rfl, rfl⟩
  case round =>
    obtain ⟨k, hk, rfl, hi⟩ := hrel
    by_cases hlt : k < ws.length
    · have hcell := HC.out k hlt
      generalize hx : ws.getD k ⟨#[]⟩ = x at *
      have HS := Lib.hid (idxL_step ws s k hlt)
      have HX := Lib.hid hx
      clear hx
      cases he : (s.toList == x.toList)
      · go_wp2
        go_round
        case rel => exact ⟨k + 1, by omega, by go_num, by rw [hi.out, HS.out, HX.out, he]; rfl⟩
        case measure => simp [intOf]; omega
      · go_wp2
        go_ret
        exact ⟨ret_int (by rw [hi.out, HS.out, HX.out, he]; rfl), rfl⟩
    · go_wp2
      go_ret
      exact ⟨ret_int (by rw [hi.out, List.drop_of_length_le (by omega)]; rfl), rfl⟩
theorem impl_tinctureWords (w : World) : Calls Tryd.prog 18 #[] w fun e w' => e = .returned (.slice (some ⟨w.heap.size, 0, none⟩) 9 9) ∧ w.alloc (.cells twArr 9) = w' := by
  go_enter Tryd.func18, Tryd.ntmps18
  go_wp2
  go_ret
  exact ⟨rfl, rfl⟩
theorem impl_ParseTincture (s : ByteArray) (w : World) : Calls Tryd.prog 13 #[.string s] w fun e w' => e = .returned (.tuple #[.int .i64 (pt s), .bool (decide (0 < pt s))]) ∧ Below w.heap.size w w' := by
  unfold pt
  obtain ⟨hr, hr2⟩ := idx9 s
  have HC : Hid (∀ i, i < twords.length → (w.alloc (.cells twArr 9)).cell? ⟨w.heap.size, i, none⟩ = some (.string (twords.getD i ⟨#[]⟩))) := by
    intro i hi
    simp [twArr_at i (by simpa [twords] using hi)]
  go_enter Tryd.func13, Tryd.ntmps13
  go_wp2_with (first | (go_at_call 18; refine (impl_tinctureWords _).mono ?_; rintro e w' ⟨rfl, rfl⟩) | (go_at_call 10; refine (slices_Index _ _ _ twords _ _ (by simp [twords, maxLen]) rfl HC.out).mono ?_; rintro e w' ⟨rfl, rfl⟩))
  go_ret2
  exact ⟨by simp; omega, (by repeat (first | (with_reducible exact Below.refl _ _) | (with_reducible assumption) | (with_reducible refine balloc ?_ _) | (with_reducible refine bdrew ?_) | (with_reducible refine bdrewN ?_ _) | (with_reducible refine bset ?_ (by first | omega | (simp; done) | (simp; omega)) _) | (with_reducible refine bstep ?_ (by assumption))))⟩
theorem spec_l2Parse (s : ByteArray) (w : World) : Calls Tryd.prog 8 #[.string s] w fun e w' => e = .returned (.int .i64 (pt s)) ∧ Below w.heap.size w w' := by
  go_enter Tryd.func8, Tryd.ntmps8
  go_wp2
  go_loopw [3] (fun x wr => ∃ k : Nat, k ≤ 9 ∧ x = .int .i64 ((k : Int) + 1) ∧ Hid (idxL twords s 0 = idxL (twords.drop k) s k) ∧ Below w.heap.size w wr) (fun x _ => 10 - (intOf x).toNat)
  case atStart => exact ⟨0, Nat.zero_le _, rfl, rfl, Below.refl _ _⟩
  case round =>
    obtain ⟨k, hk, rfl, hi, hb⟩ := hrel
    by_cases hlt : k < 9
    · have h : inB 1 ((k : Int) + 1) 9 = true := by rw [inB_true]; omega
      have HS := Lib.hid (idxL_step twords s k (by simpa [twords] using hlt))
      have HX := Lib.hid (tw_getD k hlt)
      have HH := Lib.hid h
      clear h
      generalize hx : tw ((k : Int) + 1) = x at *
      have HY := Lib.hid hx
      clear hx
      cases he : (x.toList == s.toList)
      · go_wp2_with (go_at_call 16; refine (spec_l2Word _ HH.out _).mono ?_; rw [HY.out]; rintro e w1 ⟨rfl, hb1⟩)
        go_roundw
        case rel => exact ⟨k + 1, by omega, by go_num, by rw [hi.out, HS.out, ← HX.out, BEq.comm, he]; rfl, (by repeat (first | (with_reducible exact Below.refl _ _) | (with_reducible assumption) | (with_reducible refine balloc ?_ _) | (with_reducible refine bdrew ?_) | (with_reducible refine bdrewN ?_ _) | (with_reducible refine bset ?_ (by first | omega | (simp; done) | (simp; omega)) _) | (with_reducible refine bstep ?_ (by assumption))))⟩
        case measure => simp [intOf]; omega
      · go_wp2_with (go_at_call 16; refine (spec_l2Word _ HH.out _).mono ?_; rw [HY.out]; rintro e w1 ⟨rfl, hb1⟩)
        go_ret
        exact ⟨ret_int (by unfold pt; rw [hi.out, HS.out, ← HX.out, BEq.comm, he]; rfl), (by repeat (first | (with_reducible exact Below.refl _ _) | (with_reducible assumption) | (with_reducible refine balloc ?_ _) | (with_reducible refine bdrew ?_) | (with_reducible refine bdrewN ?_ _) | (with_reducible refine bset ?_ (by first | omega | (simp; done) | (simp; omega)) _) | (with_reducible refine bstep ?_ (by assumption))))⟩
    · obtain rfl : k = 9 := by omega
      go_wp2
      go_ret
      exact ⟨ret_int (by unfold pt; rw [hi.out]; rfl), (by repeat (first | (with_reducible exact Below.refl _ _) | (with_reducible assumption) | (with_reducible refine balloc ?_ _) | (with_reducible refine bdrew ?_) | (with_reducible refine bdrewN ?_ _) | (with_reducible refine bset ?_ (by first | omega | (simp; done) | (simp; omega)) _) | (with_reducible refine bstep ?_ (by assumption))))⟩
end Go.Proofs.YtbegoaakgbclkaaDoor
