/- AppendChecksum, VerifyChecksum: the walks. Conditions: as each theorem says. -/
import Derived.Test.YtbaekalebodhaaaDoorRows
import Derived.Test.YtbaekalebodhaaaDoorSeal
namespace Go.Proofs.YtbaekalebodhaaaDoor
set_option linter.unusedSimpArgs false
set_option linter.unusedVariables false
open Go.ChangeShapes Go.WideShapes Go.ChangeAt Go.RowKit Go.Joins

theorem spec_l1Seal (s : ByteArray) (hs : s.size ≤ 1048576) (w : World) : Calls Tryd.prog 35 #[.string s] w fun e w' => e = .returned (.string (sealS s)) ∧ Below w.heap.size w w' := by
  have hc := csum_range s
  have hm : s.size ≤ maxLen := by unfold maxLen; omega
  have HQ : Hid (∀ w, Calls Tryd.prog 28 #[.int .i64 (csum s)] w fun e w' => e = .returned (.string (numS (csum s))) ∧ Below w.heap.size w w') := Lib.hid (fun w => spec_l1Num _ _ (by omega) (by omega))
  have HS := Lib.hid (spec_l1Sum s hm)
  have hz := numS_size (n := csum s) (by omega) (by omega)
  clear hc hm
  go_enter Tryd.func35, Tryd.ntmps35
  go_wp2_with (first | (go_at_call 43; refine (HS.out _).mono ?_; rintro e w1 ⟨rfl, rfl⟩) | (go_at_call 28; refine (HQ.out _).mono ?_; rintro e w1 ⟨rfl, hb1⟩))
  go_ret
  exact ⟨rfl, by assumption⟩
theorem sealV_no {s : ByteArray} (h : okSeal s = false) : sealV s = ⟨#[]⟩ := by unfold sealV; rw [h]; rfl
theorem sealV_yes {s : ByteArray} (h : okSeal s = true) : sealV s = sealS s := by unfold sealV; rw [h]; rfl
def RetSeal (s : ByteArray) (w : World) (e : Ending) (w' : World) : Prop := e = .returned (.tuple #[.string (sealV s), .bool (okSeal s)]) ∧ Below w.heap.size w w'
theorem spec_AppendChecksum (s : ByteArray) (hs : s.size ≤ 1048576) (w : World) : Calls Tryd.prog 17 #[.string s] w (RetSeal s w) := by
  have HSt := Lib.hid (fun w => spec_l1Stands s 35 w hs)
  have HSe := Lib.hid (spec_l1Seal s hs)
  have no : okSeal s = false → ∀ {e w'}, e = .returned (.tuple #[.string ⟨#[]⟩, .bool false]) → Below w.heap.size w w' → RetSeal s w e w' := fun h e w' he hb => ⟨by rw [he, sealV_no h, h], hb⟩
  have yes : okSeal s = true → ∀ {e w'}, e = .returned (.tuple #[.string (sealS s), .bool true]) → Below w.heap.size w w' → RetSeal s w e w' := fun h e w' he hb => ⟨by rw [he, sealV_yes h, h], hb⟩
  have NO := Lib.hid @no
  have YES := Lib.hid @yes
  clear no yes
  by_cases h1 : s.size ≤ 4000
  · cases h2 : stands s 35
    · by_cases h3 : (sealS s).size ≤ 4000
      · have hk : Hid (okSeal s = true) := Lib.hid (by unfold okSeal; simp [*])
        go_enter Tryd.func17, Tryd.ntmps17
        go_wp2_with (first | (go_at_call 34; refine (HSt.out _).mono ?_; rintro e w1 ⟨rfl, rfl⟩) | (go_at_call 35; refine (HSe.out _).mono ?_; rintro e w1 ⟨rfl, hb1⟩))
        go_ret2
        exact YES.out hk.out rfl (bstep (by assumption) (by assumption))
      · have hk : Hid (okSeal s = false) := Lib.hid (by unfold okSeal; simp [*])
        go_enter Tryd.func17, Tryd.ntmps17
        go_wp2_with (first | (go_at_call 34; refine (HSt.out _).mono ?_; rintro e w1 ⟨rfl, rfl⟩) | (go_at_call 35; refine (HSe.out _).mono ?_; rintro e w1 ⟨rfl, hb1⟩))
        go_ret2
        exact NO.out hk.out rfl (by assumption)
    · have hk : Hid (okSeal s = false) := Lib.hid (by unfold okSeal; simp [*])
      go_enter Tryd.func17, Tryd.ntmps17
      go_wp2_with (first | (go_at_call 34; refine (HSt.out _).mono ?_; rintro e w1 ⟨rfl, rfl⟩) | (go_at_call 35; refine (HSe.out _).mono ?_; rintro e w1 ⟨rfl, hb1⟩))
      go_ret2
      exact NO.out hk.out rfl (Below.refl _ _)
  · have hk : Hid (okSeal s = false) := Lib.hid (by unfold okSeal; simp [*])
    go_enter Tryd.func17, Tryd.ntmps17
    go_wp2_with fail
    go_ret2
    exact NO.out hk.out rfl (Below.refl _ _)
theorem strings_Contains_b (s : ByteArray) (w : World) : Calls Tryd.prog 32 #[.string s, .string ⟨#[35]⟩] w fun e w' => e = .returned (.bool (stands s 35)) ∧ w = w' := by
  refine (Tryd.strings_Contains_one s 35 w).mono ?_
  rintro e w' ⟨rfl, rfl⟩
  exact ⟨by rw [ib_stands]; rfl, rfl⟩
theorem impl_AppendChecksum (s : ByteArray) (hs : s.size ≤ 1048576) (w : World) (ht : Tab w) : Calls Tryd.prog 16 #[.string s] w (RetSeal s w) := by
  have hc := csum_range s
  have hm : s.size ≤ maxLen := by unfold maxLen; omega
  have HSt := Lib.hid (fun w => strings_Contains_b s w)
  have HI := Lib.hid (strconv_Itoa_b (csum s) (by simp [okN, inB]; omega) w ht)
  have HS := Lib.hid (impl_checksum s hm)
  have hz := numS_size (n := csum s) (by omega) (by omega)
  have no : okSeal s = false → ∀ {e w'}, e = .returned (.tuple #[.string ⟨#[]⟩, .bool false]) → Below w.heap.size w w' → RetSeal s w e w' := fun h e w' he hb => ⟨by rw [he, sealV_no h, h], hb⟩
  have yes : okSeal s = true → ∀ {e w'}, e = .returned (.tuple #[.string (sealS s), .bool true]) → Below w.heap.size w w' → RetSeal s w e w' := fun h e w' he hb => ⟨by rw [he, sealV_yes h, h], hb⟩
  have NO := Lib.hid @no
  have YES := Lib.hid @yes
  clear no yes hc hm ht
  by_cases h1 : s.size ≤ 4000
  · cases h2 : stands s 35
    · by_cases h3 : (sealS s).size ≤ 4000
      · have hk : Hid (okSeal s = true) := Lib.hid (by unfold okSeal; simp [h1, h2, h3])
        rw [sealS_len] at h3
        go_enter Tryd.func16, Tryd.ntmps16
        go_wp2_with (first | (go_at_call 32; refine (HSt.out _).mono ?_; rintro e w1 ⟨rfl, rfl⟩) | (go_at_call 33; refine (HS.out _).mono ?_; rintro e w1 ⟨rfl, rfl⟩) | (go_at_call 24; refine (HI.out).mono ?_; rintro e w1 ⟨rfl, hb1⟩))
        all_goals go_ret2
        all_goals exact YES.out hk.out rfl (by assumption)
      · have hk : Hid (okSeal s = false) := Lib.hid (by unfold okSeal; simp [h1, h2, h3])
        rw [sealS_len] at h3
        go_enter Tryd.func16, Tryd.ntmps16
        go_wp2_with (first | (go_at_call 32; refine (HSt.out _).mono ?_; rintro e w1 ⟨rfl, rfl⟩) | (go_at_call 33; refine (HS.out _).mono ?_; rintro e w1 ⟨rfl, rfl⟩) | (go_at_call 24; refine (HI.out).mono ?_; rintro e w1 ⟨rfl, hb1⟩))
        all_goals go_ret2
        all_goals exact NO.out hk.out rfl (by assumption)
    · have hk : Hid (okSeal s = false) := Lib.hid (by unfold okSeal; simp [h1, h2])
      go_enter Tryd.func16, Tryd.ntmps16
      go_wp2_with (first | (go_at_call 32; refine (HSt.out _).mono ?_; rintro e w1 ⟨rfl, rfl⟩))
      go_ret2
      exact NO.out hk.out rfl (Below.refl _ _)
  · have hk : Hid (okSeal s = false) := Lib.hid (by unfold okSeal; simp [h1])
    go_enter Tryd.func16, Tryd.ntmps16
    go_wp2_with fail
    go_ret2
    exact NO.out hk.out rfl (Below.refl _ _)
end Go.Proofs.YtbaekalebodhaaaDoor
