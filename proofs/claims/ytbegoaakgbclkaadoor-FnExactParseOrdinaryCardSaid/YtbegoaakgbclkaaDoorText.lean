/- Contracts of the functions on texts of ordinaries and findings. Conditions: as each theorem says. -/
import Derived.Test.YtbegoaakgbclkaaDoorRows
import Derived.Test.YtbegoaakgbclkaaDoorGroup2
import Derived.Deep.RegionHeld3
import Derived.Deep.QuietTactic
import Derived.BigQuiet
import Derived.Deep.RegionWith
namespace Go.Proofs.YtbegoaakgbclkaaDoor
set_option linter.unusedSimpArgs false
set_option linter.unusedVariables false
open Go.ChangeShapes Go.WideShapes Go.ChangeAt Go.RowKit

def wline (s : ByteArray) (l : Int) : ByteArray := if l = 0 then s else (s ++ ⟨#[32]⟩) ++ lw l
theorem sz1 (b : UInt8) : (⟨#[b]⟩ : ByteArray).size = 1 := rfl
theorem sz2 (b c : UInt8) : (⟨#[b, c]⟩ : ByteArray).size = 2 := rfl
theorem impl_isOrdinary (o l t : Int) (w : World) : Calls Tryd.prog 19 #[.int .i64 o, .int .i64 l, .int .i64 t] w fun e w' => e = .returned (.bool (ordOk o l t)) ∧ w = w' := by
  go_enter Tryd.func19, Tryd.ntmps19
  go_wp2_with (first | (go_at_call 25; refine (impl_inside _ _ _ _).mono ?_; rintro e w' ⟨rfl, rfl⟩) | (go_at_call 26; refine (impl_isLine _ _).mono ?_; rintro e w' ⟨rfl, rfl⟩) | (go_at_call 27; refine (impl_IsTincture _ _).mono ?_; rintro e w' ⟨rfl, rfl⟩))
  all_goals go_ret
  all_goals exact ⟨by unfold ordOk; simp_all, rfl⟩
theorem impl_withLine (s : ByteArray) (l : Int) (h : inB 0 l 4 = true) (hs : s.size ≤ 1000) (w : World) : Calls Tryd.prog 28 #[.string s, .int .i64 l] w fun e w' => e = .returned (.string (wline s l)) ∧ Below w.heap.size w w' := by
  by_cases h0 : l = 0
  · subst h0
    rw [show wline s 0 = s from rfl]
    go_enter Tryd.func28, Tryd.ntmps28
    go_wp2
    go_ret
    exact ⟨rfl, Below.refl _ _⟩
  · rw [show wline s l = (s ++ ⟨#[32]⟩) ++ lw l from if_neg h0]
    have n0 : (l == 0) = false := by simpa using h0
    obtain ⟨h1, h2⟩ := inB_true.1 h
    have hx := lw_at l (by rw [inB_true]; omega)
    have hz := lw_size l
    have h3 : 1 ≤ l := by omega
    simp only [lwords, List.map_cons, List.map_nil] at hx
    clear h h0
    go_enter Tryd.func28, Tryd.ntmps28
    go_wp2
    go_ret
    exact ⟨rfl, (by repeat (first | (with_reducible exact Below.refl _ _) | (with_reducible assumption) | (with_reducible refine balloc ?_ _) | (with_reducible refine bdrew ?_) | (with_reducible refine bdrewN ?_ _) | (with_reducible refine bset ?_ (by first | omega | (simp; done) | (simp; omega)) _) | (with_reducible refine bstep ?_ (by assumption))))⟩
theorem impl_ordinaryStart (o l : Int) (h : inB 1 o 7 = true) (h' : inB 0 l 4 = true) (w : World) : Calls Tryd.prog 20 #[.int .i64 o, .int .i64 l] w fun e w' => e = .returned (.string (ostart o l)) ∧ Below w.heap.size w w' := by
  have hx := ow_at o h
  have hz := ow_size o
  simp only [owords, List.map_cons, List.map_nil] at hx
  obtain ⟨h1, h2⟩ := inB_true.1 h
  have H := Lib.hid h'
  have HZ : Hid ((⟨#[97, 32]⟩ ++ ow o : ByteArray).size ≤ 1000) := by
    show _ ≤ _
    rw [ByteArray.size_append, sz2]; omega
  clear h h'
  go_enter Tryd.func20, Tryd.ntmps20
  go_wp2_with (first | (go_at_call 11; go_in) | (go_at_call 28; refine (impl_withLine _ _ H.out HZ.out _).mono ?_; rintro e w1 ⟨rfl, hb1⟩))
  go_ret
  exact ⟨rfl, (by repeat (first | (with_reducible exact Below.refl _ _) | (with_reducible assumption) | (with_reducible refine balloc ?_ _) | (with_reducible refine bdrew ?_) | (with_reducible refine bdrewN ?_ _) | (with_reducible refine bset ?_ (by first | omega | (simp; done) | (simp; omega)) _) | (with_reducible refine bstep ?_ (by assumption))))⟩
theorem impl_OrdinaryText (o l t : Int) (w : World) : Calls Tryd.prog 14 #[.int .i64 o, .int .i64 l, .int .i64 t] w fun e w' => e = .returned (.tuple #[.string (otV o l t), .bool (ordOk o l t)]) ∧ Below w.heap.size w w' := by
  unfold otV
  cases h : ordOk o l t
  · go_enter Tryd.func14, Tryd.ntmps14
    go_wp2_with (go_at_call 19; refine (impl_isOrdinary _ _ _ _).mono ?_; rintro e w' ⟨rfl, rfl⟩)
    go_ret2
    exact ⟨by simp, (by repeat (first | (with_reducible exact Below.refl _ _) | (with_reducible assumption) | (with_reducible refine balloc ?_ _) | (with_reducible refine bdrew ?_) | (with_reducible refine bdrewN ?_ _) | (with_reducible refine bset ?_ (by first | omega | (simp; done) | (simp; omega)) _) | (with_reducible refine bstep ?_ (by assumption))))⟩
  · have h' := h
    unfold ordOk at h'
    simp only [Bool.and_eq_true] at h'
    obtain ⟨g1, g2, g3⟩ := h'
    have hx := tw_at t g3
    have hz := tw_size t g3
    have hs := ostart_size o l
    simp only [twords, List.map_cons, List.map_nil] at hx
    obtain ⟨h1, h2⟩ := inB_true.1 g3
    have G1 := Lib.hid g1
    have G2 := Lib.hid g2
    clear g1 g2 g3
    go_enter Tryd.func14, Tryd.ntmps14
    go_wp2_with (first | (go_at_call 19; refine (impl_isOrdinary _ _ _ _).mono ?_; rintro e w' ⟨rfl, rfl⟩) | (go_at_call 20; refine (impl_ordinaryStart _ _ G1.out G2.out _).mono ?_; rintro e w1 ⟨rfl, hb1⟩) | (go_at_call 18; go_in))
    go_ret2
    exact ⟨by simp, (by repeat (first | (with_reducible exact Below.refl _ _) | (with_reducible assumption) | (with_reducible refine balloc ?_ _) | (with_reducible refine bdrew ?_) | (with_reducible refine bdrewN ?_ _) | (with_reducible refine bset ?_ (by first | omega | (simp; done) | (simp; omega)) _) | (with_reducible refine bstep ?_ (by assumption))))⟩
theorem spec_l3LineWord (l : Int) (h : inB 1 l 4 = true) (w : World) : Calls Tryd.prog 21 #[.int .i64 l] w fun e w' => e = .returned (.string (lw l)) ∧ Below w.heap.size w w' := by
  have hx := lw_at0 l h
  simp only [lwords, List.map_cons, List.map_nil] at hx
  obtain ⟨h1, h2⟩ := inB_true.1 h
  clear h
  go_enter Tryd.func21, Tryd.ntmps21
  go_wp2
  go_ret
  exact ⟨rfl, (by repeat (first | (with_reducible exact Below.refl _ _) | (with_reducible assumption) | (with_reducible refine balloc ?_ _) | (with_reducible refine bdrew ?_) | (with_reducible refine bdrewN ?_ _) | (with_reducible refine bset ?_ (by first | omega | (simp; done) | (simp; omega)) _) | (with_reducible refine bstep ?_ (by assumption))))⟩
theorem spec_l6Ordinary (o l : Int) (h : inB 1 o 7 = true) (h' : inB 0 l 4 = true) (w : World) : Calls Tryd.prog 15 #[.int .i64 o, .int .i64 l] w fun e w' => e = .returned (.string (ostart o l)) ∧ Below w.heap.size w w' := by
  have hx := ow_at0 o h
  have hz := ow_size o
  have hy := lw_size l
  simp only [owords, List.map_cons, List.map_nil] at hx
  obtain ⟨h1, h2⟩ := inB_true.1 h
  obtain ⟨h3, h4⟩ := inB_true.1 h'
  by_cases h0 : l = 0
  · subst h0
    rw [show ostart o 0 = ⟨#[97, 32]⟩ ++ ow o from rfl]
    clear h h'
    go_enter Tryd.func15, Tryd.ntmps15
    go_wp2
    go_ret
    exact ⟨rfl, (by repeat (first | (with_reducible exact Below.refl _ _) | (with_reducible assumption) | (with_reducible refine balloc ?_ _) | (with_reducible refine bdrew ?_) | (with_reducible refine bdrewN ?_ _) | (with_reducible refine bset ?_ (by first | omega | (simp; done) | (simp; omega)) _) | (with_reducible refine bstep ?_ (by assumption))))⟩
  · have h5 : 0 < l := by omega
    have H : Hid (inB 1 l 4 = true) := by show _ = _; rw [inB_true]; omega
    rw [show ostart o l = ((⟨#[97, 32]⟩ ++ ow o) ++ ⟨#[32]⟩) ++ lw l from if_neg h0]
    clear h h' h0
    go_enter Tryd.func15, Tryd.ntmps15
    go_wp2_with (go_at_call 21; refine (spec_l3LineWord _ H.out _).mono ?_; rintro e w1 ⟨rfl, hb1⟩)
    go_ret
    exact ⟨rfl, (by repeat (first | (with_reducible exact Below.refl _ _) | (with_reducible assumption) | (with_reducible refine balloc ?_ _) | (with_reducible refine bdrew ?_) | (with_reducible refine bdrewN ?_ _) | (with_reducible refine bset ?_ (by first | omega | (simp; done) | (simp; omega)) _) | (with_reducible refine bstep ?_ (by assumption))))⟩
end Go.Proofs.YtbegoaakgbclkaaDoor
