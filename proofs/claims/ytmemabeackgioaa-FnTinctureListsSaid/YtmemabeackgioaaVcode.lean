/- The helpers of the laws over a code. Conditions: as each theorem says. -/
import Derived.Test.YtmemabeackgioaaRows
import Derived.Test.YtmemabeackgioaaCons
import Derived.Test.YtmemabeackgioaaDraw
namespace Go.Proofs.Ytmemabeackgioaa
set_option linter.unusedSimpArgs false
set_option linter.unusedVariables false
open Go.ChangeShapes Go.WideShapes Go.ChangeAt Go.RowKit

theorem code_arg {w : World} {a : Option Addr} {len cap : Nat} {zs : List Int} (h : IsRow .u8 w a len cap zs) (hl : len ≤ 65536) : Code w a len := by
  refine ⟨hl, fun i hi => ?_⟩
  rcases h with ⟨rfl, rfl, rfl, rfl⟩ | ⟨x, rfl, h1, h2, h3, hc, hw⟩
  · omega
  · have hk : i < zs.length := by omega
    have h4 := hc i hk
    have h5 := World.block_lt_of_cell? _ _ h4
    rw [add_block] at h5
    have h6 := hw (zs.getD i 0) (by simp [List.getD_eq_getElem?_getD, hk])
    have h7 : 0 ≤ zs.getD i 0 ∧ zs.getD i 0 ≤ 255 := by
      generalize zs.getD i 0 = z at h6
      have e1 : IntKind.u8.min = 0 := rfl
      have e2 : IntKind.u8.max = 255 := rfl
      simp [Lit.wf, e1, e2] at h6
      omega
    exact ⟨x, _, rfl, h5, h4, h7.1, h7.2⟩
theorem laws_vBig (A : Option Addr) (len cap : Nat) (w : World) : Calls Try.prog 32 #[.slice A len cap] w fun e w' => e = .returned (.bool (decide (65536 < len))) ∧ w = w' := by
  by_cases h : 65536 < len
  all_goals
    go_enter Try.func32, Try.ntmps32
    go_wp2
    go_ret
    exact ⟨by simp [h] <;> omega, rfl⟩
theorem laws_vHas (A : Option Addr) (n c : Nat) (xs : List Int) (x : Int) (w : World) (hn : n = xs.length) (hl : xs.length ≤ maxLen) (hr : Reads w A xs) :
    Calls Try.prog 42 #[.slice A n c, .int .i64 x] w fun e w' => e = .returned (.bool (hasI xs x)) ∧ w = w' := by
  subst hn
  unfold maxLen at hl
  have HR := Lib.hid hr
  clear hr
  go_enter Try.func42, Try.ntmps42
  go_wp2
  go_loop [5] (fun i => ∃ k : Nat, k ≤ xs.length ∧ i = .int .i64 k ∧ Hid (hasI xs x = hasI (xs.drop k) x)) (fun i => xs.length - (intOf i).toNat)
  case atStart => exact ⟨0, Nat.zero_le _, rfl, rfl⟩
  case round =>
    obtain ⟨k, hk, rfl, hi⟩ := hrel
    by_cases hlt : k < xs.length
    · obtain ⟨ad, rfl, hx, hc⟩ := HR.out k hlt
      have HS := Lib.hid (hasI_step xs x k hlt)
      generalize hy : xs.getD k 0 = y at *
      have HY := Lib.hid hy
      clear hy
      cases he : (y == x)
      · go_wp2
        go_round
        case rel => exact ⟨k + 1, by omega, by go_num, by rw [hi.out, HS.out, he]; rfl⟩
        case measure => simp [intOf]; omega
      · go_wp2
        go_ret
        exact ⟨by rw [hi.out, HS.out, he]; rfl, rfl⟩
    · go_wp2
      go_ret
      exact ⟨by rw [hi.out, List.drop_of_length_le (by omega)]; rfl, rfl⟩
end Go.Proofs.Ytmemabeackgioaa
