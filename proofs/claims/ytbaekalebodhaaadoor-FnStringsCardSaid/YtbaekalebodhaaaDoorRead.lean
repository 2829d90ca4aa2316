/- ParseInt: the reference's reading. Conditions: as each theorem says. -/
import Derived.Test.YtbaekalebodhaaaDoorRows
import Derived.Test.YtbaekalebodhaaaDoorFmt
import Derived.Test.YtbaekalebodhaaaDoorSeal3
import Derived.Lib.AtoiTie
import Derived.Lib.AtoiErrMem
namespace Go.Proofs.YtbaekalebodhaaaDoor
set_option linter.unusedSimpArgs false
set_option linter.unusedVariables false
open Go.ChangeShapes Go.WideShapes Go.ChangeAt Go.RowKit Go.Joins

/-- The digits behind a sign. -/
def bare (s : ByteArray) : ByteArray := if h : 1 < s.size then if s[0].toNat = 45 then s.extract 1 s.size else s else s
/-- What a text reads as. -/
def rd (s : ByteArray) : Option Int :=
  if 1 ≤ (bare s).size ∧ (bare s).size ≤ 6 then
    match Lib.decFrom 0 (bare s).data.toList with
    | none => none
    | some m => if numS (if (bare s).size < s.size then -(m : Int) else m) = s then some (if (bare s).size < s.size then -(m : Int) else m) else none
  else none
def RetI (s : ByteArray) (w : World) (e : Ending) (w' : World) : Prop := e = .returned (.tuple #[.int .i64 ((rd s).getD 0), .bool (rd s).isSome]) ∧ Below w.heap.size w w'
theorem retI_none {s : ByteArray} {w w' : World} {e : Ending} (h : rd s = none) (he : e = .returned (.tuple #[.int .i64 0, .bool false])) (hb : Below w.heap.size w w') : RetI s w e w' := ⟨by rw [he, h]; rfl, hb⟩
theorem retI_some {s : ByteArray} {n : Int} {w w' : World} {e : Ending} (h : rd s = some n) (he : e = .returned (.tuple #[.int .i64 n, .bool true])) (hb : Below w.heap.size w w') : RetI s w e w' := ⟨by rw [he, h]; rfl, hb⟩
theorem rd_len {s T : ByteArray} (hB : bare s = T) (h : ¬ (1 ≤ T.size ∧ T.size ≤ 6)) : rd s = none := by
  subst hB
  unfold rd
  rw [if_neg h]
theorem rd_bad {s T : ByteArray} (hB : bare s = T) (h : ∀ m, Lib.decFrom 0 T.data.toList ≠ some m) : rd s = none := by
  subst hB
  unfold rd
  split
  · cases hd : Lib.decFrom 0 (bare s).data.toList with
    | none => rfl
    | some m => exact absurd hd (h m)
  · rfl
theorem rd_good {s T : ByteArray} {m : Nat} {n : Int} (hB : bare s = T) (h : Lib.decFrom 0 T.data.toList = some m) (hl : 1 ≤ T.size ∧ T.size ≤ 6) (hn : (if T.size < s.size then -(m : Int) else m) = n) (hq : numS n = s) : rd s = some n := by
  subst hB
  unfold rd
  rw [if_pos hl, h]
  simp only [hn]
  rw [if_pos hq]
theorem rd_off {s T : ByteArray} {m : Nat} {n : Int} (hB : bare s = T) (h : Lib.decFrom 0 T.data.toList = some m) (hl : 1 ≤ T.size ∧ T.size ≤ 6) (hn : (if T.size < s.size then -(m : Int) else m) = n) (hq : numS n ≠ s) : rd s = none := by
  subst hB
  unfold rd
  rw [if_pos hl, h]
  simp only [hn]
  rw [if_neg hq]
set_option maxHeartbeats 1000000 in
theorem spec_l1Read (s : ByteArray) (hs : s.size ≤ 1048576) (w : World) : Calls Tryd.prog 21 #[.string s] w (RetI s w) := by
  by_cases h12 : ∃ h : 1 < s.size, s[0].toNat = 45
  · obtain ⟨h1, h2⟩ := h12
    have hT : (s.extract 1 s.size).size = s.size - 1 := by simp
    have HB : Hid (bare s = s.extract 1 s.size) := Lib.hid (by unfold bare; rw [dif_pos h1, if_pos h2])
    by_cases h6 : s.size ≤ 7
    · have hin : inB 1 ((s.size - 1 : Nat) : Int) 6 = true := by simp [inB]; omega
      have hss : s.extract 1 s.size ≠ s := fun e => by rw [e] at hT; omega
      go_enter Tryd.func21, Tryd.ntmps21
      go_wp2_with (go_at_call 27; refine (spec_l1In _ _ _ _).mono ?_; rintro e w' ⟨rfl, rfl⟩)
      generalize s.extract 1 s.size = T at *
      go_loop [5, 6] (fun n i => ∃ k acc : Nat, k ≤ T.size ∧ i = .int .i64 k ∧ n = .int .i64 acc ∧ Hid (Lib.decFrom 0 (T.data.toList.take k) = some acc)) (fun _ i => T.size - (intOf i).toNat)
      case atStart => exact ⟨0, 0, Nat.zero_le _, rfl, rfl, rfl⟩
      case round =>
        obtain ⟨k, acc, hk, rfl, rfl, hi⟩ := hrel
        have ha : acc < 100000000000000000 := Lib.decFrom_take_lt hi.out (by omega)
        by_cases hlt : k < T.size
        · have hb : T[k].toNat < 256 := T[k].toNat_lt
          have hel : T.data.toList[k]? = some T[k] := by
            rw [List.getElem?_eq_getElem (by simpa using hlt)]
            rfl
          by_cases hdg : 48 ≤ T[k].toNat ∧ T[k].toNat ≤ 57
          · have HS := Lib.hid (Lib.decFrom_take T.data.toList k 0 acc T[k] (T[k].toNat - 48) hi.out hel (by unfold Lib.digitVal; rw [if_pos hdg]))
            clear hi hel
            go_wp2
            go_round
            case rel => exact ⟨k + 1, acc * 10 + (T[k].toNat - 48), by omega, by go_num, by refine congrArg (Value.int .i64) ?_; omega, HS.out⟩
            case measure => simp [intOf]; omega
          · have HN : Hid (rd s = none) := Lib.hid (rd_bad HB.out (fun m hm => by
              obtain ⟨d, hd⟩ := Lib.digit_of_decFrom _ _ _ hm k _ hel
              unfold Lib.digitVal at hd
              rw [if_neg hdg] at hd
              cases hd))
            clear hi hel HB
            go_wp2
            all_goals go_ret2
            all_goals exact retI_none HN.out rfl (Below.refl _ _)
        · have hkT : k = T.size := by omega
          have hf : Lib.decFrom 0 T.data.toList = some acc := by
            have := hi.out
            rwa [hkT, List.take_of_length_le (by simp)] at this
          have HQ := Lib.hid (fun w => spec_l1Num (-(acc : Int)) w (by omega) (by omega))
          by_cases hq : numS (-(acc : Int)) = s
          · have HN : Hid (rd s = some (-(acc : Int))) := Lib.hid (rd_good HB.out hf (by omega) (if_pos (by omega)) hq)
            rw [hq] at HQ
            clear hf hi hq HB
            go_wp2_with (go_at_call 28; refine (HQ.out _).mono ?_; rintro e w1 ⟨rfl, hb1⟩)
            all_goals go_ret2
            all_goals exact retI_some HN.out rfl (by assumption)
          · have HN : Hid (rd s = none) := Lib.hid (rd_off HB.out hf (by omega) (if_pos (by omega)) hq)
            have hn := ne_list hq
            clear hf hi hq HB
            generalize numS (-(acc : Int)) = t at *
            go_wp2_with (go_at_call 28; refine (HQ.out _).mono ?_; rintro e w1 ⟨rfl, hb1⟩)
            all_goals first | (exfalso; simp_all; done) | skip
            all_goals go_ret2
            all_goals exact retI_none HN.out rfl (by assumption)
    · have hin : inB 1 ((s.size - 1 : Nat) : Int) 6 = false := by simp [inB]; omega
      have HN : Hid (rd s = none) := Lib.hid (rd_len HB.out (by omega))
      go_enter Tryd.func21, Tryd.ntmps21
      go_wp2_with (go_at_call 27; refine (spec_l1In _ _ _ _).mono ?_; rintro e w' ⟨rfl, rfl⟩)
      go_ret2
      exact retI_none HN.out rfl (Below.refl _ _)
  · have HB : Hid (bare s = s) := Lib.hid (by
      unfold bare
      by_cases h : 1 < s.size
      · rw [dif_pos h, if_neg (fun e => h12 ⟨h, e⟩)]
      · rw [dif_neg h])
    by_cases h6 : 1 ≤ s.size ∧ s.size ≤ 6
    · have hin : inB 1 ((s.size : Nat) : Int) 6 = true := by simp [inB]; omega
      have hc : Hid (∀ h : 1 < s.size, s[0].toNat ≠ 45) := Lib.hid (fun h e => h12 ⟨h, e⟩)
      clear h12
      by_cases h1 : 1 < s.size
      · have hc0 := hc.out h1
        clear hc
        go_enter Tryd.func21, Tryd.ntmps21
        go_wp2_with (go_at_call 27; refine (spec_l1In _ _ _ _).mono ?_; rintro e w' ⟨rfl, rfl⟩)
        go_loop [5, 6] (fun n i => ∃ k acc : Nat, k ≤ s.size ∧ i = .int .i64 k ∧ n = .int .i64 acc ∧ Hid (Lib.decFrom 0 (s.data.toList.take k) = some acc)) (fun _ i => s.size - (intOf i).toNat)
        case atStart => exact ⟨0, 0, Nat.zero_le _, rfl, rfl, rfl⟩
        case round =>
          obtain ⟨k, acc, hk, rfl, rfl, hi⟩ := hrel
          have ha : acc < 100000000000000000 := Lib.decFrom_take_lt hi.out (by omega)
          by_cases hlt : k < s.size
          · have hb : s[k].toNat < 256 := s[k].toNat_lt
            have hel : s.data.toList[k]? = some s[k] := by
              rw [List.getElem?_eq_getElem (by simpa using hlt)]
              rfl
            by_cases hdg : 48 ≤ s[k].toNat ∧ s[k].toNat ≤ 57
            · have HS := Lib.hid (Lib.decFrom_take s.data.toList k 0 acc s[k] (s[k].toNat - 48) hi.out hel (by unfold Lib.digitVal; rw [if_pos hdg]))
              clear hi hel
              go_wp2
              go_round
              case rel => exact ⟨k + 1, acc * 10 + (s[k].toNat - 48), by omega, by go_num, by refine congrArg (Value.int .i64) ?_; omega, HS.out⟩
              case measure => simp [intOf]; omega
            · have HN : Hid (rd s = none) := Lib.hid (rd_bad HB.out (fun m hm => by
                obtain ⟨d, hd⟩ := Lib.digit_of_decFrom _ _ _ hm k _ hel
                unfold Lib.digitVal at hd
                rw [if_neg hdg] at hd
                cases hd))
              clear hi hel HB
              go_wp2
              all_goals go_ret2
              all_goals exact retI_none HN.out rfl (Below.refl _ _)
          · have hkT : k = s.size := by omega
            have hf : Lib.decFrom 0 s.data.toList = some acc := by
              have := hi.out
              rwa [hkT, List.take_of_length_le (by simp)] at this
            have HQ := Lib.hid (fun w => spec_l1Num ((acc : Int)) w (by omega) (by omega))
            by_cases hq : numS ((acc : Int)) = s
            · have HN : Hid (rd s = some ((acc : Int))) := Lib.hid (rd_good HB.out hf (by omega) (if_neg (by omega)) hq)
              rw [hq] at HQ
              clear hf hi hq HB
              go_wp2_with (go_at_call 28; refine (HQ.out _).mono ?_; rintro e w1 ⟨rfl, hb1⟩)
              all_goals go_ret2
              all_goals exact retI_some HN.out rfl (by assumption)
            · have HN : Hid (rd s = none) := Lib.hid (rd_off HB.out hf (by omega) (if_neg (by omega)) hq)
              have hn := ne_list hq
              clear hf hi hq HB
              generalize numS ((acc : Int)) = t at *
              go_wp2_with (go_at_call 28; refine (HQ.out _).mono ?_; rintro e w1 ⟨rfl, hb1⟩)
              all_goals first | (exfalso; simp_all; done) | skip
              all_goals go_ret2
              all_goals exact retI_none HN.out rfl (by assumption)
      · clear hc
        go_enter Tryd.func21, Tryd.ntmps21
        go_wp2_with (go_at_call 27; refine (spec_l1In _ _ _ _).mono ?_; rintro e w' ⟨rfl, rfl⟩)
        go_loop [5, 6] (fun n i => ∃ k acc : Nat, k ≤ s.size ∧ i = .int .i64 k ∧ n = .int .i64 acc ∧ Hid (Lib.decFrom 0 (s.data.toList.take k) = some acc)) (fun _ i => s.size - (intOf i).toNat)
        case atStart => exact ⟨0, 0, Nat.zero_le _, rfl, rfl, rfl⟩
        case round =>
          obtain ⟨k, acc, hk, rfl, rfl, hi⟩ := hrel
          have ha : acc < 100000000000000000 := Lib.decFrom_take_lt hi.out (by omega)
          by_cases hlt : k < s.size
          · have hb : s[k].toNat < 256 := s[k].toNat_lt
            have hel : s.data.toList[k]? = some s[k] := by
              rw [List.getElem?_eq_getElem (by simpa using hlt)]
              rfl
            by_cases hdg : 48 ≤ s[k].toNat ∧ s[k].toNat ≤ 57
            · have HS := Lib.hid (Lib.decFrom_take s.data.toList k 0 acc s[k] (s[k].toNat - 48) hi.out hel (by unfold Lib.digitVal; rw [if_pos hdg]))
              clear hi hel
              go_wp2
              go_round
              case rel => exact ⟨k + 1, acc * 10 + (s[k].toNat - 48), by omega, by go_num, by refine congrArg (Value.int .i64) ?_; omega, HS.out⟩
              case measure => simp [intOf]; omega
            · have HN : Hid (rd s = none) := Lib.hid (rd_bad HB.out (fun m hm => by
                obtain ⟨d, hd⟩ := Lib.digit_of_decFrom _ _ _ hm k _ hel
                unfold Lib.digitVal at hd
                rw [if_neg hdg] at hd
                cases hd))
              clear hi hel HB
              go_wp2
              all_goals go_ret2
              all_goals exact retI_none HN.out rfl (Below.refl _ _)
          · have hkT : k = s.size := by omega
            have hf : Lib.decFrom 0 s.data.toList = some acc := by
              have := hi.out
              rwa [hkT, List.take_of_length_le (by simp)] at this
            have HQ := Lib.hid (fun w => spec_l1Num ((acc : Int)) w (by omega) (by omega))
            by_cases hq : numS ((acc : Int)) = s
            · have HN : Hid (rd s = some ((acc : Int))) := Lib.hid (rd_good HB.out hf (by omega) (if_neg (by omega)) hq)
              rw [hq] at HQ
              clear hf hi hq HB
              go_wp2_with (go_at_call 28; refine (HQ.out _).mono ?_; rintro e w1 ⟨rfl, hb1⟩)
              all_goals go_ret2
              all_goals exact retI_some HN.out rfl (by assumption)
            · have HN : Hid (rd s = none) := Lib.hid (rd_off HB.out hf (by omega) (if_neg (by omega)) hq)
              have hn := ne_list hq
              clear hf hi hq HB
              generalize numS ((acc : Int)) = t at *
              go_wp2_with (go_at_call 28; refine (HQ.out _).mono ?_; rintro e w1 ⟨rfl, hb1⟩)
              all_goals first | (exfalso; simp_all; done) | skip
              all_goals go_ret2
              all_goals exact retI_none HN.out rfl (by assumption)
    · have hin : inB 1 ((s.size : Nat) : Int) 6 = false := by simp [inB]; omega
      have HN : Hid (rd s = none) := Lib.hid (rd_len HB.out h6)
      have hc : Hid (∀ h : 1 < s.size, s[0].toNat ≠ 45) := Lib.hid (fun h e => h12 ⟨h, e⟩)
      clear h12
      by_cases h1 : 1 < s.size
      · have hc0 := hc.out h1
        clear hc
        go_enter Tryd.func21, Tryd.ntmps21
        go_wp2_with (go_at_call 27; refine (spec_l1In _ _ _ _).mono ?_; rintro e w' ⟨rfl, rfl⟩)
        go_ret2
        exact retI_none HN.out rfl (Below.refl _ _)
      · clear hc
        go_enter Tryd.func21, Tryd.ntmps21
        go_wp2_with (go_at_call 27; refine (spec_l1In _ _ _ _).mono ?_; rintro e w' ⟨rfl, rfl⟩)
        go_ret2
        exact retI_none HN.out rfl (Below.refl _ _)
end Go.Proofs.YtbaekalebodhaaaDoor
