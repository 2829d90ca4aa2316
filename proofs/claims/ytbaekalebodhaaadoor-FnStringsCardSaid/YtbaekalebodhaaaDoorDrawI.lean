/- Drawn numbers and texts for FnStrings. Conditions: as each theorem says. -/
import Derived.Test.YtbaekalebodhaaaDoorRows
import Derived.Test.YtbaekalebodhaaaDoorDrawS2
import Derived.Test.YtbaekalebodhaaaDoorNum
namespace Go.Proofs.YtbaekalebodhaaaDoor
set_option linter.unusedSimpArgs false
set_option linter.unusedVariables false
open Go.ChangeShapes Go.WideShapes Go.ChangeAt Go.RowKit

/-- What a draw out of a list has done. -/
def DrawnIn (xs : List Int) (w0 w : World) (g : Nat) (A : Option Addr) (len cap n : Nat) (e : Ending) (w' : World) : Prop :=
  ∃ v : Int, e = .returned (.int .i64 v) ∧ v ∈ xs ∧ w.grownBy w' (some g) ∧ Cur w0 w' g A len cap n
theorem spec_among (v : Value) (xs : List Int) (B : Nat) (w0 w : World) (g : Nat) (A : Option Addr) (len cap n : Nat) (hv : Ints w B v xs) (hgB : g < B) (hx : 1 ≤ xs.length) (hx2 : xs.length ≤ 1000) (hc : Code w0 A len) (hn : n ≤ 900000) (h : Cur w0 w g A len cap n) :
    Calls Tryd.prog 25 #[.pointer (some ⟨g, 0, none⟩), v] w (DrawnIn xs w0 w g A len cap (n + 2)) := by
  have HC := Lib.hid hc
  have H := Lib.hid h
  have HV := Lib.hid hv
  obtain ⟨a, c, rfl, _⟩ := hv.shape
  clear hc h hv
  go_enter Tryd.func25, Tryd.ntmps25
  go_wp2_with fail
  refine (spec_pick xs.length (by omega) (by omega) w0 _ g A len cap n HC.out hn H.out).mono ?_
  rintro e w1 ⟨i, rfl, hi0, hi1, hg1, hc1⟩
  obtain ⟨k, rfl⟩ : ∃ k : Nat, i = (k : Int) := ⟨i.toNat, by omega⟩
  have hk : k < xs.length := by omega
  have hv1 : Ints w1 B (.slice a xs.length c) xs := World.ownsRow.kept (v := .slice a xs.length c) (row := some g) HV.out hg1 (.inr (Ne.symm (own_ne HV.out hgB)))
  obtain ⟨a', c', he, ha'⟩ := hv1.shape
  obtain ⟨b, hA, _, hb, hcell, _⟩ := ha' k hk
  injection he with he1
  subst he1
  subst hA
  have hin : xs.getD k 0 ∈ xs := by simp [List.getD_eq_getElem?_getD, hk]
  have HIN := Lib.hid hin
  have HG1 := Lib.hid hg1
  have HC1 := Lib.hid hc1
  clear hg1 hc1 hv1 ha' hin HV
  generalize xs.getD k 0 = y at *
  go_wp2
  go_ret
  exact ⟨_, rfl, HIN.out, HG1.out, HC1.out⟩
theorem spec_DrawFormatInt (A : Option Addr) (len cap : Nat) (w : World) (hc : Code w A len) : Calls Tryd.prog 11 #[.slice A len cap] w fun e w' => ∃ n : Int, e = .returned (.int .i64 n) ∧ Below w.heap.size w w' := by
  have HC := Lib.hid hc
  clear hc
  go_enter Tryd.func11, Tryd.ntmps11
  go_wp2_with fail
  refine (spec_pick 1000 (by omega) (by omega) w _ w.heap.size A len cap 0 HC.out (by omega) (curS_new w A len cap)).mono ?_
  rintro e w1 ⟨v, rfl, hv0, hv1, hg1, hc1⟩
  have HC1 := Lib.hid hc1
  clear hg1 hc1
  go_wp2_with fail
  have hi := ints_lit w1 [0, 1, -1, 10, 999999, -999999, 1000000, -1000000, v - 500] _ 9 rfl rfl (by simp [maxLen])
  have hb := (Below.refl w1.heap.size w1).alloc (Nat.le_refl _) (.cells ([0, 1, -1, 10, 999999, -999999, 1000000, -1000000, v - 500].map (Value.int .i64)).toArray 3)
  refine (spec_among _ _ _ w _ w.heap.size A len cap (0 + 2) hi HC1.out.2.1 (by simp) (by simp) HC.out (by omega) (HC1.out.below hb)).mono ?_
  rintro e w2 ⟨u, rfl, hu, hg2, hc2⟩
  have HC2 := Lib.hid hc2
  clear hg2 hc2 hu hb hi
  go_wp2
  go_ret
  exact ⟨_, rfl, HC2.out.2.2.1⟩
def pis : List ByteArray := [⟨#[]⟩, ⟨#[45]⟩, ⟨#[45, 48]⟩, ⟨#[48, 48]⟩, ⟨#[48, 49]⟩, ⟨#[45, 45, 49]⟩, ⟨#[49, 120]⟩, ⟨#[57, 57, 57, 57, 57, 57]⟩, ⟨#[49, 48, 48, 48, 48, 48, 48]⟩, ⟨#[45, 57, 57, 57, 57, 57, 57]⟩, ⟨#[49, 56, 52, 52, 54, 55, 52, 52, 48, 55, 51, 55, 48, 57, 53, 53, 49, 54, 49, 55]⟩]
theorem pis_size {x : ByteArray} (h : x ∈ pis) : x.size ≤ 21 := by
  simp only [pis, List.mem_cons, List.not_mem_nil, or_false] at h
  rcases h with rfl | rfl | rfl | rfl | rfl | rfl | rfl | rfl | rfl | rfl | rfl <;> decide
def DrawnT (m : Nat) (w : World) (e : Ending) (w' : World) : Prop := ∃ x : ByteArray, e = .returned (.string x) ∧ x.size ≤ m ∧ Below w.heap.size w w'
theorem spec_DrawParseInt (A : Option Addr) (len cap : Nat) (w : World) (hc : Code w A len) : Calls Tryd.prog 14 #[.slice A len cap] w (DrawnT 21 w) := by
  have HC := Lib.hid hc
  clear hc
  go_enter Tryd.func14, Tryd.ntmps14
  go_wp2_with fail
  refine (spec_one 2 (by omega) (by omega) w _ w.heap.size A len cap 0 HC.out (by omega) (curS_new w A len cap)).mono ?_
  rintro e w1 ⟨b, rfl, hg1, hc1⟩
  have HC1 := Lib.hid hc1
  clear hg1 hc1
  cases b
  · go_wp2_with fail
    refine (spec_pick 2000 (by omega) (by omega) w _ w.heap.size A len cap (0 + 2) HC.out (by omega) HC1.out).mono ?_
    rintro e w2 ⟨v, rfl, hv0, hv1, hg2, hc2⟩
    have HC2 := Lib.hid hc2
    have HZ := Lib.hid (numS_size (n := v - 1000) (by omega) (by omega))
    have HN := Lib.hid (fun w => spec_l1Num (v - 1000) w (by omega) (by omega))
    clear hg2 hc2
    go_wp2_with (go_at_call 28; refine (HN.out _).mono ?_; rintro e w3 ⟨rfl, hb3⟩)
    go_ret
    exact ⟨_, rfl, HZ.out, bstep HC2.out.2.2.1 (by assumption)⟩
  · go_wp2_with fail
    have hb := (Below.refl w1.heap.size w1).alloc (Nat.le_refl _) (.cells (pis.map Value.string).toArray 9)
    refine (spec_of _ pis w1.heap.size w _ w.heap.size A len cap (0 + 2) (strs_lit w1 pis _ 11 rfl rfl (by decide)) HC1.out.2.1 (by decide) (by decide) HC.out (by omega) (HC1.out.below hb)).mono ?_
    rintro e w2 ⟨u, rfl, hu, hg2, hc2⟩
    have HC2 := Lib.hid hc2
    have HU := Lib.hid (pis_size hu)
    clear hg2 hc2 hu hb
    go_wp2
    go_ret
    exact ⟨_, rfl, HU.out, HC2.out.2.2.1⟩
theorem spec_DrawAppendChecksum (A : Option Addr) (len cap : Nat) (w : World) (hc : Code w A len) : Calls Tryd.prog 15 #[.slice A len cap] w (DrawnT 4010 w) := by
  have HC := Lib.hid hc
  obtain ⟨i0, hi0, hz0, hz1, hz2⟩ := info_parts byte_info
  have HI0 := Lib.hid hi0
  have HZ0 := Lib.hid hz0
  have HZ1 := Lib.hid hz1
  have HZ2 := Lib.hid hz2
  clear hc hi0 hz0 hz1 hz2
  go_enter Tryd.func15, Tryd.ntmps15
  go_wp2_with fail
  refine (spec_one 20 (by omega) (by omega) w _ w.heap.size A len cap 0 HC.out (by omega) (curS_new w A len cap)).mono ?_
  rintro e w1 ⟨b, rfl, hg1, hc1⟩
  have HC1 := Lib.hid hc1
  clear hg1 hc1
  cases b
  · go_wp2_with fail
    refine (spec_any1 w _ w.heap.size A len cap (0 + 2) HC.out (by omega) HC1.out).mono ?_
    rintro e w2 ⟨u, rfl, hu, hg2, hc2⟩
    have HC2 := Lib.hid hc2
    have HU := Lib.hid (anys_size hu)
    clear hg2 hc2 hu
    go_wp2
    go_ret
    exact ⟨_, rfl, Nat.le_trans HU.out (by decide), HC2.out.2.2.1⟩
  · go_wp2_with fail
    refine (spec_pick 10 (by omega) (by omega) w _ w.heap.size A len cap (0 + 2) HC.out (by omega) HC1.out).mono ?_
    rintro e w3 ⟨z, rfl, hz0, hz1, hg3, hc3⟩
    have HC3 := Lib.hid hc3
    obtain ⟨q, rfl⟩ : ∃ q : Nat, z = (q : Int) := ⟨z.toNat, by omega⟩
    clear hg3 hc3
    go_wp2_with (refine wpList_make_full _ rfl _ _ 25 rfl w3.heap.size 5 i0 (.int .u8 0) 1 Tryd.underlying25 HI0.out HZ0.out HZ1.out .i64 .i64 _ _ (3990 + q) rfl rfl (by omega) (by omega) (by rw [HZ2.out]; omega) (by unfold maxLen; omega) (Nat.le_refl _) ?_; intro w4 hown hg4; have hcv := run_convert_bytes_arg (P := Tryd.prog) w4 25 5 Tryd.underlying25 Tryd.underlying5 w3.heap.size 0 (3990 + q) (3990 + q) (List.replicate (3990 + q) 0) (by simp) (fun i hi => by rw [Nat.zero_add, hown.cellAt i (by omega), Nat.mul_one, show (madeCells (Value.int .u8 0).cells (3990 + q)).toList = List.replicate (3990 + q) (Value.int .u8 0) from toList_madeCells_one _ _]; simp [hi]) 9 Tryd.underlying9; have hb4 : Below w3.heap.size w3 w4 := (Below.refl _ _).grown hg4 (Nat.le_refl _) (fun k hk => by cases hk); have HB4 := Lib.hid (HC3.out.2.2.1.trans (hb4.mono HC3.out.2.2.1.size)); clear hown hg4 hb4)
    go_ret
    exact ⟨_, rfl, by rw [nums_size]; omega, HB4.out⟩
end Go.Proofs.YtbaekalebodhaaaDoor
