/- VerifyChecksum. Conditions: as each theorem says. -/
import Derived.Test.YtbaekalebodhaaaDoorRows
import Derived.Test.YtbaekalebodhaaaDoorSeal2
namespace Go.Proofs.YtbaekalebodhaaaDoor
set_option linter.unusedSimpArgs false
set_option linter.unusedVariables false
open Go.ChangeShapes Go.WideShapes Go.ChangeAt Go.RowKit Go.Joins

def okVer (s : ByteArray) : Bool := decide (s.size ≤ 4000) && decide (sealS (HdS s) = s)
def verV (s : ByteArray) : ByteArray := if okVer s then HdS s else ⟨#[]⟩
def RetVer (s : ByteArray) (w : World) (e : Ending) (w' : World) : Prop := e = .returned (.tuple #[.string (verV s), .bool (okVer s)]) ∧ Below w.heap.size w w'
theorem hdS_size (s : ByteArray) : (HdS s).size ≤ s.size := by
  have : (s.data.toList.takeWhile (· != 35)).length ≤ s.data.toList.length := (List.takeWhile_sublist _).length_le
  unfold HdS ByteArray.size
  simpa using this
theorem hdS_clean (s : ByteArray) : stands (HdS s) 35 = false := by
  show (s.data.toList.takeWhile (· != 35)).any (· == 35) = false
  induction s.data.toList with
  | nil => rfl
  | cons x l ih =>
    by_cases h : x = 35
    · simp [h]
    · have hx : (x != 35) = true := by simp [h]
      rw [List.takeWhile_cons, if_pos hx, List.any_cons, ih]
      simp [h]
theorem hdS_whole {s : ByteArray} (h : stands s 35 = false) : HdS s = s := by
  apply ba_ext
  unfold HdS
  simp only [List.toList_toArray]
  exact (tw_clean 35 s.data.toList [] h).2
theorem okVer_none {s : ByteArray} (h : stands s 35 = false) : okVer s = false := by
  unfold okVer
  rw [hdS_whole h]
  have := (sealS_size s).1
  have : sealS s ≠ s := fun e => by rw [e] at this; omega
  simp [this]
theorem okVer_impl {s : ByteArray} : okVer s = (okSeal (HdS s) && decide (sealV (HdS s) = s)) := by
  have hc := hdS_clean s
  have hz := (sealS_size (HdS s)).1
  by_cases h : sealS (HdS s) = s
  · have hz2 : (HdS s).size < s.size := by rw [h] at hz; omega
    have hk : okSeal (HdS s) = decide (s.size ≤ 4000) := by
      unfold okSeal
      rw [hc, h]
      by_cases h4 : s.size ≤ 4000
      · simp [h4]; omega
      · simp [h4]
    unfold okVer
    rw [hk]
    by_cases h4 : s.size ≤ 4000
    · rw [sealV_yes (by rw [hk]; simp [h4]), h]
    · simp [h4]
  · unfold okVer
    by_cases hk : okSeal (HdS s) = true
    · rw [sealV_yes hk]
      simp [h]
    · have hk : okSeal (HdS s) = false := by simpa using hk
      rw [hk]
      simp [h]
theorem verV_no {s : ByteArray} (h : okVer s = false) : verV s = ⟨#[]⟩ := by unfold verV; rw [h]; rfl
theorem verV_yes {s : ByteArray} (h : okVer s = true) : verV s = HdS s := by unfold verV; rw [h]; rfl
theorem retVer_no {s : ByteArray} {w w' : World} {e : Ending} (h : okVer s = false) (he : e = .returned (.tuple #[.string ⟨#[]⟩, .bool false])) (hb : Below w.heap.size w w') : RetVer s w e w' := ⟨by rw [he, verV_no h, h], hb⟩
theorem retVer_yes {s : ByteArray} {w w' : World} {e : Ending} (h : okVer s = true) (he : e = .returned (.tuple #[.string (HdS s), .bool true])) (hb : Below w.heap.size w w') : RetVer s w e w' := ⟨by rw [he, verV_yes h, h], hb⟩
theorem ne_list {a b : ByteArray} (h : a ≠ b) : a.toList ≠ b.toList := fun e => h (by
  apply ba_ext
  rw [← ByteArray.toList_eq, ← ByteArray.toList_eq]
  exact e)
theorem spec_VerifyChecksum (s : ByteArray) (hs : s.size ≤ 1048576) (w : World) : Calls Tryd.prog 20 #[.string s] w (RetVer s w) := by
  by_cases h4 : s.size ≤ 4000
  · have HSe := Lib.hid (spec_l1Seal (HdS s) (Nat.le_trans (hdS_size s) hs))
    have HSp := Lib.hid (spec_l1Split s 35 w hs)
    have HD := Lib.hid (split_hd s)
    have HL : Hid (0 < (splitS s 35).length) := Lib.hid (by unfold splitS; simp)
    go_enter Tryd.func20, Tryd.ntmps20
    go_wp2_with fail
    refine (HSp.out).mono ?_
    rintro e w1 ⟨v, rfl, hi, hb⟩
    obtain ⟨A, c, rfl, hA⟩ := hi.shape
    obtain ⟨b, rfl, _, hlt, hcell, _⟩ := hA 0 HL.out
    rw [HD.out] at hcell
    have hl := HL.out
    clear hA hi
    go_wp2_with fail
    refine (HSe.out _).mono ?_
    rintro e w2 ⟨rfl, hb2⟩
    have HB := Lib.hid (bstep hb hb2)
    clear hb hb2 hcell hl
    by_cases hq : sealS (HdS s) = s
    · have hk : Hid (okVer s = true) := Lib.hid (by unfold okVer; simp [h4, hq])
      rw [hq]
      clear hq
      go_wp2_with fail
      go_ret2
      exact retVer_yes hk.out rfl HB.out
    · have hk : Hid (okVer s = false) := Lib.hid (by unfold okVer; simp [h4, hq])
      have hn := ne_list hq
      clear hq
      generalize sealS (HdS s) = t at *
      go_wp2_with fail
      all_goals first | (exfalso; simp_all; done) | skip
      go_ret2
      exact retVer_no hk.out rfl HB.out
  · have hk : Hid (okVer s = false) := Lib.hid (by unfold okVer; simp [h4])
    go_enter Tryd.func20, Tryd.ntmps20
    go_wp2_with fail
    go_ret2
    exact retVer_no hk.out rfl (Below.refl _ _)
theorem strings_Cut_b (s : ByteArray) (hs : s.size ≤ 1048576) (w : World) (hm : Mx w) : Calls Tryd.prog 36 #[.string s, .string ⟨#[35]⟩] w fun e w' => ∃ r, e = .returned (.tuple #[.string (HdS s), .string r, .bool (stands s 35)]) ∧ Below w.heap.size w w' := by
  obtain ⟨m, hm⟩ := hm
  refine (Tryd.strings_Cut s ⟨#[35]⟩ m w (by omega) hm).mono ?_
  rintro e w' ⟨rfl, n, rfl⟩
  have h := cut_hd s
  exact ⟨_, by rw [← h.1, ← h.2], bdrewN (Below.refl _ _) n⟩
theorem impl_VerifyChecksum (s : ByteArray) (hs : s.size ≤ 1048576) (w : World) (hm : Mx w) (ht : Tab w) : Calls Tryd.prog 18 #[.string s] w (RetVer s w) := by
  have HC := Lib.hid (strings_Cut_b s hs w hm)
  have HA := Lib.hid (fun w' h => impl_AppendChecksum (HdS s) (Nat.le_trans (hdS_size s) hs) w' (ht.below (w' := w') h))
  have HO := Lib.hid (okVer_impl (s := s))
  clear hm ht
  go_enter Tryd.func18, Tryd.ntmps18
  go_wp2_with fail
  refine (HC.out).mono ?_
  rintro e w1 ⟨r, rfl, hb1⟩
  cases hst : stands s 35
  · have hk := Lib.hid (okVer_none hst)
    clear HC HA HO
    go_wp2_with fail
    go_ret2
    exact retVer_no hk.out rfl hb1
  · clear HC
    go_wp2_with fail
    refine (HA.out _ hb1).mono ?_
    rintro e w2 ⟨rfl, hb2⟩
    have HB := Lib.hid (bstep hb1 hb2)
    clear hb1 hb2 HA
    cases hos : okSeal (HdS s)
    · have hk : Hid (okVer s = false) := Lib.hid (by rw [HO.out, hos]; rfl)
      generalize sealV (HdS s) = t at *
      clear HO
      go_wp2_with fail
      go_ret2
      exact retVer_no hk.out rfl HB.out
    · by_cases hq : sealV (HdS s) = s
      · have hk : Hid (okVer s = true) := Lib.hid (by rw [HO.out, hos, hq]; simp)
        rw [hq]
        clear hq HO
        go_wp2_with fail
        go_ret2
        exact retVer_yes hk.out rfl HB.out
      · have hk : Hid (okVer s = false) := Lib.hid (by rw [HO.out]; simp [hq])
        have hn := ne_list hq
        clear hq HO
        generalize sealV (HdS s) = t at *
        go_wp2_with fail
        all_goals first | (exfalso; simp_all; done) | skip
        go_ret2
        exact retVer_no hk.out rfl HB.out
end Go.Proofs.YtbaekalebodhaaaDoor
