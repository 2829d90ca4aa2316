/- Contracts of the functions on strings. Conditions: as each theorem says. -/
import Derived.Test.YtbaekalebodhaaaDoorRows
import Derived.Test.YtbaekalebodhaaaDoorTinct
namespace Go.Proofs.YtbaekalebodhaaaDoor
set_option linter.unusedSimpArgs false
set_option linter.unusedVariables false
open Go.ChangeShapes Go.WideShapes Go.ChangeAt Go.RowKit

theorem spec_l1Sum (s : ByteArray) (hs : s.size ≤ maxLen) (w : World) : Calls Tryd.prog 43 #[.string s] w fun e w' => e = .returned (.int .i64 (csum s)) ∧ w = w' := by
  unfold maxLen at hs
  go_enter Tryd.func43, Tryd.ntmps43
  go_wp2
  go_loop [3, 4] (fun h i => ∃ k : Nat, k ≤ s.size ∧ i = .int .i64 k ∧ h = .int .i64 (csl 7 (s.data.toList.take k))) (fun _ i => s.size - (intOf i).toNat)
  case atStart => exact ⟨0, Nat.zero_le _, rfl, rfl⟩
  case round =>
    obtain ⟨k, hk, rfl, rfl⟩ := hrel
    have hr := csl_range 7 (s.data.toList.take k) (by omega) (by omega)
    by_cases hlt : k < s.size
    · have HS : Hid (csl 7 (s.data.toList.take (k + 1)) = (41 * csl 7 (s.data.toList.take k) + (s[k].toNat : Int) + 1) % 999979) := by rw [take_snoc s k hlt, csl_snoc]; exact rfl
      have hb : (s[k].toNat : Int) < 256 := by have := s[k].toNat_lt; omega
      go_wp2
      go_round
      case rel => exact ⟨k + 1, by omega, by go_num, by rw [HS.out]⟩
      case measure => simp [intOf]; omega
    · go_wp2
      go_ret
      exact ⟨ret_int (by rw [List.take_of_length_le (by simp; omega)]; rfl), rfl⟩
theorem impl_checksum (s : ByteArray) (hs : s.size ≤ maxLen) (w : World) : Calls Tryd.prog 33 #[.string s] w fun e w' => e = .returned (.int .i64 (csum s)) ∧ w = w' := by
  unfold maxLen at hs
  go_enter Tryd.func33, Tryd.ntmps33
  go_wp2
  go_loop [3, 4] (fun h i => ∃ k : Nat, k ≤ s.size ∧ i = .int .i64 k ∧ h = .int .i64 (csl 7 (s.data.toList.take k))) (fun _ i => s.size - (intOf i).toNat)
  case atStart => exact ⟨0, Nat.zero_le _, rfl, rfl⟩
  case round =>
    obtain ⟨k, hk, rfl, rfl⟩ := hrel
    have hr := csl_range 7 (s.data.toList.take k) (by omega) (by omega)
    by_cases hlt : k < s.size
    · have HS : Hid (csl 7 (s.data.toList.take (k + 1)) = (41 * csl 7 (s.data.toList.take k) + (s[k].toNat : Int) + 1) % 999979) := by rw [take_snoc s k hlt, csl_snoc]; exact rfl
      have hb : (s[k].toNat : Int) < 256 := by have := s[k].toNat_lt; omega
      go_wp2
      go_round
      case rel => exact ⟨k + 1, by omega, by go_num, by rw [HS.out]⟩
      case measure => simp [intOf]; omega
    · go_wp2
      go_ret
      exact ⟨ret_int (by rw [List.take_of_length_le (by simp; omega)]; rfl), rfl⟩
end Go.Proofs.YtbaekalebodhaaaDoor
