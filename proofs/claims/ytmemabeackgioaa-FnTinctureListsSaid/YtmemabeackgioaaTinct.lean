/- Contracts of the functions on tinctures. Conditions: as each theorem says. -/
import Derived.Test.YtmemabeackgioaaRows
import Derived.Test.YtmemabeackgioaaPlain
namespace Go.Proofs.Ytmemabeackgioaa
set_option linter.unusedSimpArgs false
set_option linter.unusedVariables false
open Go.ChangeShapes Go.WideShapes Go.ChangeAt Go.RowKit

theorem impl_inside (n lo hi : Int) (w : World) : Calls Try.prog 74 #[.int .i64 n, .int .i64 lo, .int .i64 hi] w fun e w' => e = .returned (.bool (inB lo n hi)) ∧ w = w' := by
  unfold inB
  go_enter Try.func74, Try.ntmps74
  go_wp2
  all_goals go_ret
  · exact ⟨by simp [*], rfl⟩
  · exact ⟨by simp [*]; omega, rfl⟩
theorem spec_l1In (n lo hi : Int) (w : World) : Calls Try.prog 86 #[.int .i64 n, .int .i64 lo, .int .i64 hi] w fun e w' => e = .returned (.bool (inB lo n hi)) ∧ w = w' := by
  unfold inB
  go_enter Try.func86, Try.ntmps86
  go_wp2
  all_goals go_ret
  · exact ⟨by simp [*], rfl⟩
  · exact ⟨by simp [*]; omega, rfl⟩
theorem impl_IsTincture (n : Int) (w : World) : Calls Try.prog 40 #[.int .i64 n] w fun e w' => e = .returned (.bool (inB 1 n 9)) ∧ w = w' := by
  go_enter Try.func40, Try.ntmps40
  go_wp2_with (go_at_call 74; refine (impl_inside _ _ _ _).mono ?_; rintro e w' ⟨rfl, rfl⟩)
  go_ret
  exact ⟨rfl, rfl⟩
theorem spec_l2Good (n : Int) (w : World) : Calls Try.prog 50 #[.int .i64 n] w fun e w' => e = .returned (.bool (inB 1 n 9)) ∧ w = w' := by
  go_enter Try.func50, Try.ntmps50
  go_wp2_with (go_at_call 86; refine (spec_l1In _ _ _ _).mono ?_; rintro e w' ⟨rfl, rfl⟩)
  go_ret
  exact ⟨rfl, rfl⟩
theorem impl_tincture (x : Int) (h : inB 1 x 9 = true) (w : World) : Calls Try.prog 70 #[.int .i64 x] w fun e w' => e = .returned (.string (tw x)) ∧ Below w.heap.size w w' := by
  have hx := tw_at x h
  simp only [twords, List.map_cons, List.map_nil] at hx
  obtain ⟨h1, h2⟩ := inB_true.1 h
  clear h
  go_enter Try.func70, Try.ntmps70
  go_wp2
  go_ret
  exact ⟨rfl, (by repeat (first | (with_reducible exact Below.refl _ _) | (with_reducible assumption) | (with_reducible refine balloc ?_ _) | (with_reducible refine bdrew ?_) | (with_reducible refine bdrewN ?_ _) | (with_reducible refine bset ?_ (by first | omega | (simp; done) | (simp; omega)) _) | (with_reducible refine bstep ?_ (by assumption))))⟩
theorem spec_l2Word (x : Int) (h : inB 1 x 9 = true) (w : World) : Calls Try.prog 84 #[.int .i64 x] w fun e w' => e = .returned (.string (tw x)) ∧ Below w.heap.size w w' := by
  have hx := tw_at x h
  simp only [twords, List.map_cons, List.map_nil] at hx
  obtain ⟨h1, h2⟩ := inB_true.1 h
  clear h
  go_enter Try.func84, Try.ntmps84
  go_wp2
  go_ret
  exact ⟨rfl, (by repeat (first | (with_reducible exact Below.refl _ _) | (with_reducible assumption) | (with_reducible refine balloc ?_ _) | (with_reducible refine bdrew ?_) | (with_reducible refine bdrewN ?_ _) | (with_reducible refine bset ?_ (by first | omega | (simp; done) | (simp; omega)) _) | (with_reducible refine bstep ?_ (by assumption))))⟩
theorem impl_TinctureWord (x : Int) (w : World) : Calls Try.prog 36 #[.int .i64 x] w fun e w' => e = .returned (.tuple #[.string (twV x), .bool (inB 1 x 9)]) ∧ Below w.heap.size w w' := by
  unfold twV
  cases h : inB 1 x 9
  · go_enter Try.func36, Try.ntmps36
    go_wp2_with (go_at_call 40; refine (impl_IsTincture _ _).mono ?_; rintro e w' ⟨rfl, rfl⟩)
    go_ret2
    exact ⟨by simp [*], Below.refl _ _⟩
  · go_enter Try.func36, Try.ntmps36
    go_wp2_with (first | (go_at_call 40; refine (impl_IsTincture _ _).mono ?_; rintro e w' ⟨rfl, rfl⟩) | (go_at_call 70; refine (impl_tincture _ h _).mono ?_; rintro e w1 ⟨rfl, hb1⟩))
    go_ret2
    exact ⟨by simp [*], (by repeat (first | (with_reducible exact Below.refl _ _) | (with_reducible assumption) | (with_reducible refine balloc ?_ _) | (with_reducible refine bdrew ?_) | (with_reducible refine bdrewN ?_ _) | (with_reducible refine bset ?_ (by first | omega | (simp; done) | (simp; omega)) _) | (with_reducible refine bstep ?_ (by assumption))))⟩
theorem impl_class (x : Int) (w : World) : Calls Try.prog 98 #[.int .i64 x] w fun e w' => e = .returned (.int .i64 (tcl x)) ∧ w = w' := by
  unfold tcl
  go_enter Try.func98, Try.ntmps98
  go_wp2
  all_goals go_ret
  all_goals exact ⟨ret_int (by simp [*]; try omega), rfl⟩
theorem spec_l2Class (x : Int) (w : World) : Calls Try.prog 87 #[.int .i64 x] w fun e w' => e = .returned (.int .i64 (tcl x)) ∧ w = w' := by
  unfold tcl
  go_enter Try.func87, Try.ntmps87
  go_wp2
  all_goals go_ret
  all_goals exact ⟨ret_int (by simp [*]; try omega), rfl⟩
theorem impl_clash (a b : Int) (w : World) : Calls Try.prog 73 #[.int .i64 a, .int .i64 b] w fun e w' => e = .returned (.bool (tclash a b)) ∧ w = w' := by
  unfold tclash
  cases h : (a == b)
  · cases h1 : (tcl a == tcl b)
    all_goals
      go_enter Try.func73, Try.ntmps73
      go_wp2_with (go_at_call 98; refine (impl_class _ _).mono ?_; rintro e w' ⟨rfl, rfl⟩)
      go_ret
      exact ⟨by simp [*], rfl⟩
  · go_enter Try.func73, Try.ntmps73
    go_wp2_with (go_at_call 98; refine (impl_class _ _).mono ?_; rintro e w' ⟨rfl, rfl⟩)
    go_ret
    exact ⟨by simp [*], rfl⟩
theorem spec_l2Clash (a b : Int) (w : World) : Calls Try.prog 51 #[.int .i64 a, .int .i64 b] w fun e w' => e = .returned (.bool (tclash a b)) ∧ w = w' := by
  unfold tclash
  cases h : (a == b)
  · cases h1 : (tcl a == tcl b)
    all_goals
      go_enter Try.func51, Try.ntmps51
      go_wp2_with (go_at_call 87; refine (spec_l2Class _ _).mono ?_; rintro e w' ⟨rfl, rfl⟩)
      go_ret
      exact ⟨by simp [*], rfl⟩
  · go_enter Try.func51, Try.ntmps51
    go_wp2_with (go_at_call 87; refine (spec_l2Class _ _).mono ?_; rintro e w' ⟨rfl, rfl⟩)
    go_ret
    exact ⟨by simp [*], rfl⟩
theorem impl_Clash (a b : Int) (w : World) : Calls Try.prog 38 #[.int .i64 a, .int .i64 b] w fun e w' => e = .returned (.tuple #[.bool (tclashV a b), .bool (inB 1 a 9 && inB 1 b 9)]) ∧ w = w' := by
  unfold tclashV
  cases h : inB 1 a 9 <;> cases k : inB 1 b 9
  all_goals
    go_enter Try.func38, Try.ntmps38
    go_wp2_with (first | (go_at_call 40; refine (impl_IsTincture _ _).mono ?_; rintro e w' ⟨rfl, rfl⟩) | (go_at_call 73; refine (impl_clash _ _ _).mono ?_; rintro e w' ⟨rfl, rfl⟩))
    go_ret2
    exact ⟨by simp, rfl⟩
theorem spec_Clash (a b : Int) (w : World) : Calls Try.prog 39 #[.int .i64 a, .int .i64 b] w fun e w' => e = .returned (.tuple #[.bool (tclashV a b), .bool (inB 1 a 9 && inB 1 b 9)]) ∧ w = w' := by
  unfold tclashV
  cases h : inB 1 a 9 <;> cases k : inB 1 b 9
  all_goals
    go_enter Try.func39, Try.ntmps39
    go_wp2_with (first | (go_at_call 50; refine (spec_l2Good _ _).mono ?_; rintro e w' ⟨rfl, rfl⟩) | (go_at_call 51; refine (spec_l2Clash _ _ _).mono ?_; rintro e w' ⟨rfl, rfl⟩))
    go_ret2
    exact ⟨by simp, rfl⟩
theorem slices_Index (g n c : Nat) (ws : List ByteArray) (s : ByteArray) (w : World) (hl : ws.length ≤ maxLen) (hn : n = ws.length)
    (hc : ∀ i, i < ws.length → w.cell? ⟨g, i, none⟩ = some (.string (ws.getD i ⟨#[]⟩))) :
    Calls Try.prog 71 #[.slice (some ⟨g, 0, none⟩) n c, .string s] w fun e w' => e = .returned (.int .i64 (idxL ws s 0)) ∧ w = w' := by
  subst hn
  unfold maxLen at hl
  have HC := Lib.hid hc
  clear hc
  go_enter Try.func71, Try.ntmps71
  go_wp2
  go_loop [8] (fun i => ∃ k : Nat, k ≤ ws.length ∧ i = .int .i64 k ∧ Hid (idxL ws s 0 = idxL (ws.drop k) s k)) (fun i => ws.length - (intOf i).toNat)
  case atStart => exact ⟨0, Nat.zero_le _, rfl, rfl⟩
  case round =>
    obtain ⟨k, hk, rfl, hi⟩ := hrel
    by_cases hlt : k < ws.length
    · have hcell := HC.out k hlt
      generalize hx : ws.getD k ⟨#[]⟩ = x at *
      have HS := Lib.hid (idxL_step ws s k hlt)
      have HX := Lib.hid hx
      clear hx
      cases he : (s.toList == x.toList)
      · go_wp2
        go_round
        case rel => exact ⟨k + 1, by omega, by go_num, by rw [hi.out, HS.out, HX.out, he]; rfl⟩
        case measure => simp [intOf]; omega
      · go_wp2
        go_ret
        exact ⟨ret_int (by rw [hi.out, HS.out, HX.out, he]; rfl), rfl⟩
    · go_wp2
      go_ret
      exact ⟨ret_int (by rw [hi.out, List.drop_of_length_le (by omega)]; rfl), rfl⟩
theorem impl_tinctureWords (w : World) : Calls Try.prog 72 #[] w fun e w' => e = .returned (.slice (some ⟨w.heap.size, 0, none⟩) 9 9) ∧ w.alloc (.cells twArr 9) = w' := by
  go_enter Try.func72, Try.ntmps72
  go_wp2
  go_ret
  exact ⟨rfl, rfl⟩
theorem impl_ParseTincture (s : ByteArray) (w : World) : Calls Try.prog 37 #[.string s] w fun e w' => e = .returned (.tuple #[.int .i64 (pt s), .bool (decide (0 < pt s))]) ∧ Below w.heap.size w w' := by
  unfold pt
  obtain ⟨hr, hr2⟩ := idx9 s
  have HC : Hid (∀ i, i < twords.length → (w.alloc (.cells twArr 9)).cell? ⟨w.heap.size, i, none⟩ = some (.string (twords.getD i ⟨#[]⟩))) := by
    intro i hi
    simp [twArr_at i (by simpa [twords] using hi)]
  go_enter Try.func37, Try.ntmps37
  go_wp2_with (first | (go_at_call 72; refine (impl_tinctureWords _).mono ?_; rintro e w' ⟨rfl, rfl⟩) | (go_at_call 71; refine (slices_Index _ _ _ twords _ _ (by simp [twords, maxLen]) rfl HC.out).mono ?_; rintro e w' ⟨rfl, rfl⟩))
  go_ret2
  exact ⟨by simp; omega, (by repeat (first | (with_reducible exact Below.refl _ _) | (with_reducible assumption) | (with_reducible refine balloc ?_ _) | (with_reducible refine bdrew ?_) | (with_reducible refine bdrewN ?_ _) | (with_reducible refine bset ?_ (by first | omega | (simp; done) | (simp; omega)) _) | (with_reducible refine bstep ?_ (by assumption))))⟩
end Go.Proofs.Ytmemabeackgioaa
