/- Contracts of the functions on strings. Conditions: as each theorem says. -/
import Derived.Test.YtidpmjjbjdclgaaRows
import Derived.Test.YtidpmjjbjdclgaaTinct
namespace Go.Proofs.Ytidpmjjbjdclgaa
open Go.ChangeShapes Go.WideShapes Go.ChangeAt Go.RowKit

theorem impl_LessString (a b : ByteArray) (w : World) : Calls Try.prog 16 #[.string a, .string b] w fun e w' => e = .returned (.bool (Op.bytesLess a.toList b.toList)) ∧ w = w' := by
  go_enter Try.func16, Try.ntmps16
  go_wp2
  go_ret
  exact ⟨rfl, rfl⟩
theorem spec_LessString (a b : ByteArray) (w : World) : Calls Try.prog 15 #[.string a, .string b] w fun e w' => e = .returned (.bool (Op.bytesLess a.toList b.toList)) ∧ w = w' := by
  go_enter Try.func15, Try.ntmps15
  go_wp2
  go_ret
  exact ⟨rfl, rfl⟩
theorem spec_l1Sum (s : ByteArray) (hs : s.size ≤ maxLen) (w : World) : Calls Try.prog 43 #[.string s] w fun e w' => e = .returned (.int .i64 (csum s)) ∧ w = w' := by
  unfold maxLen at hs
  go_enter Try.func43, Try.ntmps43
  go_wp2
  go_loop [3, 4] (fun h i => ∃ k : Nat, k ≤ s.size ∧ i = .int .i64 k ∧ h = .int .i64 (csl 7 (s.data.toList.take k))) (fun _ i => s.size - (intOf i).toNat)
  case atStart => exact ⟨0, Nat.zero_le _, rfl, rfl⟩
  case round =>
    obtain ⟨k, hk, rfl, rfl⟩ := hrel
    have hr := csl_range 7 (s.data.toList.take k) (by omega) (by omega)
    by_cases hlt : k < s.size
    · have HS : Hid (csl 7 (s.data.toList.take (k + 1)) = (41 * csl 7 (s.data.toList.take k) + (s[k].toNat : Int) + 1) % 999979) := by rw [take_snoc s k hlt, csl_snoc]; exact rfl
      have hb : (s[k].toNat : Int) < 256 := by have := s[k].toNat_lt; omega
      go_wp2
      go_round
      case rel => exact ⟨k + 1, by omega, by go_num, by rw [HS.out]⟩
      case measure => simp [intOf]; omega
    · go_wp2
      go_ret
      exact ⟨ret_int (by rw [List.take_of_length_le (by simp; omega)]; rfl), rfl⟩
theorem impl_checksum (s : ByteArray) (hs : s.size ≤ maxLen) (w : World) : Calls Try.prog 44 #[.string s] w fun e w' => e = .returned (.int .i64 (csum s)) ∧ w = w' := by
  unfold maxLen at hs
  go_enter Try.func44, Try.ntmps44
  go_wp2
  go_loop [3, 4] (fun h i => ∃ k : Nat, k ≤ s.size ∧ i = .int .i64 k ∧ h = .int .i64 (csl 7 (s.data.toList.take k))) (fun _ i => s.size - (intOf i).toNat)
  case atStart => exact ⟨0, Nat.zero_le _, rfl, rfl⟩
  case round =>
    obtain ⟨k, hk, rfl, rfl⟩ := hrel
    have hr := csl_range 7 (s.data.toList.take k) (by omega) (by omega)
    by_cases hlt : k < s.size
    · have HS : Hid (csl 7 (s.data.toList.take (k + 1)) = (41 * csl 7 (s.data.toList.take k) + (s[k].toNat : Int) + 1) % 999979) := by rw [take_snoc s k hlt, csl_snoc]; exact rfl
      have hb : (s[k].toNat : Int) < 256 := by have := s[k].toNat_lt; omega
      go_wp2
      go_round
      case rel => exact ⟨k + 1, by omega, by go_num, by rw [HS.out]⟩
      case measure => simp [intOf]; omega
    · go_wp2
      go_ret
      exact ⟨ret_int (by rw [List.take_of_length_le (by simp; omega)]; rfl), rfl⟩
theorem impl_Checksum (s : ByteArray) (hs : s.size ≤ maxLen) (w : World) : Calls Try.prog 22 #[.string s] w fun e w' => e = .returned (.tuple #[.int .i64 (csumV s), .bool (decide (s.size ≤ 4000))]) ∧ w = w' := by
  unfold csumV
  by_cases h : s.size ≤ 4000
  all_goals
    go_enter Try.func22, Try.ntmps22
    go_wp2_with (go_at_call 44; refine (impl_checksum _ hs _).mono ?_; rintro e w' ⟨rfl, rfl⟩)
    go_ret2
    exact ⟨by simp [*], rfl⟩
theorem spec_Checksum (s : ByteArray) (hs : s.size ≤ maxLen) (w : World) : Calls Try.prog 21 #[.string s] w fun e w' => e = .returned (.tuple #[.int .i64 (csumV s), .bool (decide (s.size ≤ 4000))]) ∧ w = w' := by
  unfold csumV
  by_cases h : s.size ≤ 4000
  all_goals
    go_enter Try.func21, Try.ntmps21
    go_wp2_with (go_at_call 43; refine (spec_l1Sum _ hs _).mono ?_; rintro e w' ⟨rfl, rfl⟩)
    go_ret2
    exact ⟨by simp [*], rfl⟩
end Go.Proofs.Ytidpmjjbjdclgaa
