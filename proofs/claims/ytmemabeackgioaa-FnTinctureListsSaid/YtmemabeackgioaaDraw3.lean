/- Drawn tinctures, fields and lists of tinctures. Conditions: as each theorem says. -/
import Derived.Test.YtmemabeackgioaaRows
import Derived.Test.YtmemabeackgioaaDraw
import Derived.Deep.RegionWith
namespace Go.Proofs.Ytmemabeackgioaa
set_option linter.unusedSimpArgs false
set_option linter.unusedVariables false
open Go.ChangeShapes Go.WideShapes Go.ChangeAt Go.RowKit

theorem spec_anyTincture (w0 w : World) (g : Nat) (A : Option Addr) (len cap n : Nat) (hc : Code w0 A len) (hn : n ≤ 800000) (h : Cur w0 w g A len cap n) :
    Calls Try.prog 69 #[.pointer (some ⟨g, 0, none⟩)] w (Drawn (-1) 10 w0 w g A len cap (n + 4)) := by
  have HC := Lib.hid hc
  have H := Lib.hid h
  clear hc h
  go_enter Try.func69, Try.ntmps69
  go_wp2_with fail
  refine (spec_one 16 (by omega) (by omega) w0 _ g A len cap n HC.out (by omega) H.out).mono ?_
  rintro e w1 ⟨b, rfl, hg1, hc1⟩
  have HG1 := Lib.hid hg1
  have HC1 := Lib.hid hc1
  clear hg1 hc1
  cases b
  · go_wp2_with fail
    refine (spec_tincture w0 _ g A len cap (n + 2) HC.out (by omega) HC1.out).mono ?_
    rintro e w2 ⟨v, rfl, hv0, hv1, hg2, hc2⟩
    have HG2 := Lib.hid hg2
    have HC2 := Lib.hid hc2
    clear hg2 hc2
    go_wp2
    go_ret
    exact ⟨_, rfl, by omega, by omega, grownT' HG1.out HG2.out, HC2.out⟩
  · go_wp2_with fail
    have hi := ints_lit w1 [0, 10, -1, 9, 1] #[.int .i64 0, .int .i64 10, .int .i64 (-1), .int .i64 9, .int .i64 1] 5 rfl rfl (by decide)
    have hb := (Below.refl w1.heap.size w1).alloc (Nat.le_refl _) (.cells #[.int .i64 0, .int .i64 10, .int .i64 (-1), .int .i64 9, .int .i64 1] 3)
    refine (spec_among _ [0, 10, -1, 9, 1] _ w0 _ g A len cap (n + 2) hi HC1.out.2.1 (by simp) (by simp) HC.out (by omega) (HC1.out.below hb)).mono ?_
    rintro e w2 ⟨v, rfl, hv, hg2, hc2⟩
    have HG2 := Lib.hid (grownT' (grown_of_below hb (some g)) hg2)
    have HC2 := Lib.hid hc2
    have HV : Hid (-1 ≤ v ∧ v ≤ 10) := by
      show _ ∧ _
      simp at hv
      omega
    clear hg2 hc2 hi hb hv
    go_wp2
    go_ret
    exact ⟨_, rfl, HV.out.1, HV.out.2, grownT' HG1.out HG2.out, HC2.out⟩
/-- Two small numbers. -/
def DrawnTwo (w : World) (e : Ending) (w' : World) : Prop := ∃ x y : Int, e = .returned (.tuple #[.int .i64 x, .int .i64 y]) ∧ -100 ≤ x ∧ x ≤ 100 ∧ -100 ≤ y ∧ y ≤ 100 ∧ Below w.heap.size w w'
theorem cur_new (w : World) (A : Option Addr) (len cap : Nat) : Cur w (w.alloc (.cells #[.slice A len cap, .int .i64 0, .int .u64 0] 78)) w.heap.size A len cap 0 :=
  ⟨Nat.le_refl _, by simp, balloc (Below.refl _ _) _, 0, 0, Nat.le_refl _, Blk.new _ _ _⟩
theorem spec_DrawClash (A : Option Addr) (len cap : Nat) (w : World) (hc : Code w A len) : Calls Try.prog 35 #[.slice A len cap] w (DrawnTwo w) := by
  have HC := Lib.hid hc
  clear hc
  go_enter Try.func35, Try.ntmps35
  go_wp2_with fail
  refine (spec_anyTincture w _ w.heap.size A len cap 0 HC.out (by omega) (cur_new w A len cap)).mono ?_
  rintro e w1 ⟨v, rfl, hv0, hv1, hg1, hc1⟩
  have HC1 := Lib.hid hc1
  clear hg1 hc1
  go_wp2_with fail
  refine (spec_anyTincture w _ w.heap.size A len cap (0 + 4) HC.out (by omega) HC1.out).mono ?_
  rintro e w2 ⟨u, rfl, hu0, hu1, hg2, hc2⟩
  have HC2 := Lib.hid hc2
  clear hg2 hc2
  go_wp2
  go_ret2
  exact ⟨_, _, rfl, by omega, by omega, by omega, by omega, HC2.out.2.2.1⟩
/-- A small field. -/
def DrawnF (w0 w : World) (g : Nat) (A : Option Addr) (len cap n : Nat) (e : Ending) (w' : World) : Prop :=
  ∃ d l a b : Int, e = .returned (.agg #[.int .i64 d, .int .i64 l, .int .i64 a, .int .i64 b]) ∧ (-100 ≤ d ∧ d ≤ 100) ∧ (-100 ≤ l ∧ l ≤ 100) ∧ (-100 ≤ a ∧ a ≤ 100) ∧ (-100 ≤ b ∧ b ≤ 100) ∧ w.grownBy w' (some g) ∧ Cur w0 w' g A len cap n
theorem grown_alloc {w W : World} {r : Option Nat} (h : w.grownBy W r) (o : Obj) : w.grownBy (W.alloc o) r := grownT' h (grown_of_below (balloc (Below.refl _ _) o) r)
theorem grown_set {w W : World} {r : Option Nat} (h : w.grownBy W r) {p : Addr} (hp : w.heap.size ≤ p.block) (u : Value) : w.grownBy (W.setCell p u) r :=
  ⟨h.os, h.tape, h.output, by simpa using h.size, fun b hb hne => by rw [Below.heap_setCell _ _ _ _ (by omega)]; exact h.block b hb hne⟩
theorem Cur.set_ {w0 w : World} {g : Nat} {A : Option Addr} {len cap n : Nat} (h : Cur w0 w g A len cap n) {p : Addr} (hp : g ≠ p.block) (hp0 : w0.heap.size ≤ p.block) (u : Value) : Cur w0 (w.setCell p u) g A len cap n := by
  obtain ⟨a, b, c, q, s, hq, hB⟩ := h
  exact ⟨a, by simpa using b, bset c hp0 u, q, s, hq, hB.far hp u⟩
theorem Cur.alloc {w0 w : World} {g : Nat} {A : Option Addr} {len cap n : Nat} (h : Cur w0 w g A len cap n) (o : Obj) : Cur w0 (w.alloc o) g A len cap n := h.below (balloc (Below.refl _ _) o)
theorem ints_lit' (w : World) (xs : List Int) (cs : Array Value) (n g : Nat) (hg : w.heap.size = g) (hn : n = xs.length) (hcs : cs = (xs.map (Value.int .i64)).toArray) (hm : xs.length ≤ maxLen) :
    Ints (w.alloc (.cells cs 3)) g (.slice (some ⟨g, 0, none⟩) n n) xs := by
  subst hg
  exact ints_lit w xs cs n hn hcs hm
/-- The state of a function that draws a field: the result's box b0, the field's own box b3. -/
structure St (w0 w W : World) (g : Nat) (A : Option Addr) (len cap n : Nat) (b0 b3 : Nat) (cs0 cs3 : Array Value) : Prop where
  grown : w.grownBy W (some g)
  cur : Cur w0 W g A len cap n
  B0 : Blk W b0 47 cs0
  B3 : Blk W b3 47 cs3
  l0 : w.heap.size ≤ b0
  l3 : w.heap.size ≤ b3
  n0 : g ≠ b0
  n3 : g ≠ b3
  ne : b0 ≠ b3
section
variable {w0 w W W' : World} {g : Nat} {A : Option Addr} {len cap n n' b0 b3 : Nat} {cs0 cs3 : Array Value}
theorem St.call (h : St w0 w W g A len cap n b0 b3 cs0 cs3) (hg : W.grownBy W' (some g)) (hc : Cur w0 W' g A len cap n') : St w0 w W' g A len cap n' b0 b3 cs0 cs3 :=
  ⟨grownT' h.grown hg, hc, h.B0.grown hg (fun e => h.n0 (by injection e with e; exact e.symm)), h.B3.grown hg (fun e => h.n3 (by injection e with e; exact e.symm)), h.l0, h.l3, h.n0, h.n3, h.ne⟩
theorem St.base (h : St w0 w W g A len cap n b0 b3 cs0 cs3) (hw : w0.heap.size ≤ w.heap.size) : w0.heap.size ≤ b0 ∧ w0.heap.size ≤ b3 := ⟨Nat.le_trans hw h.l0, Nat.le_trans hw h.l3⟩
theorem St.set3 (h : St w0 w W g A len cap n b0 b3 cs0 cs3) (hw : w0.heap.size ≤ w.heap.size) (i : Nat) (u : Value) : St w0 w (W.setCell ⟨b3, i, none⟩ u) g A len cap n b0 b3 cs0 (cs3.setIfInBounds i u) :=
  ⟨grown_set h.grown h.l3 u, h.cur.set_ h.n3 (h.base hw).2 u, h.B0.far h.ne u, h.B3.set_ i u, h.l0, h.l3, h.n0, h.n3, h.ne⟩
theorem St.set0 (h : St w0 w W g A len cap n b0 b3 cs0 cs3) (hw : w0.heap.size ≤ w.heap.size) (i : Nat) (u : Value) : St w0 w (W.setCell ⟨b0, i, none⟩ u) g A len cap n b0 b3 (cs0.setIfInBounds i u) cs3 :=
  ⟨grown_set h.grown h.l0 u, h.cur.set_ h.n0 (h.base hw).1 u, h.B0.set_ i u, h.B3.far (Ne.symm h.ne) u, h.l0, h.l3, h.n0, h.n3, h.ne⟩
theorem St.alloc (h : St w0 w W g A len cap n b0 b3 cs0 cs3) (o : Obj) : St w0 w (W.alloc o) g A len cap n b0 b3 cs0 cs3 :=
  ⟨grown_alloc h.grown o, h.cur.alloc o, h.B0.alloc o, h.B3.alloc o, h.l0, h.l3, h.n0, h.n3, h.ne⟩
theorem St.drewN (h : St w0 w W g A len cap n b0 b3 cs0 cs3) (k : Nat) : St w0 w (W.drewN k) g A len cap n b0 b3 cs0 cs3 :=
  ⟨grown_drewN h.grown k, by obtain ⟨a, b, c, d⟩ := h.cur; exact ⟨a, b, below_drewN c k, d⟩, h.B0, h.B3, h.l0, h.l3, h.n0, h.n3, h.ne⟩
theorem St.drew (h : St w0 w W g A len cap n b0 b3 cs0 cs3) : St w0 w W.drew g A len cap n b0 b3 cs0 cs3 := h.drewN 1
theorem St.facts (h : St w0 w W g A len cap n b0 b3 cs0 cs3) : (∀ i, W.cell? ⟨b3, i, none⟩ = cs3[i]?) ∧ (∀ i, W.frozen? ⟨b3, i, none⟩ = false) ∧ b3 < W.heap.size := h.B3.all
end
set_option maxHeartbeats 1000000 in
theorem spec_field (w0 w : World) (g : Nat) (A : Option Addr) (len cap n : Nat) (hc : Code w0 A len) (hn : n ≤ 800000) (h : Cur w0 w g A len cap n) :
    Calls Try.prog 99 #[.pointer (some ⟨g, 0, none⟩)] w (DrawnF w0 w g A len cap (n + 10)) := by
  have HC := Lib.hid hc
  have H := Lib.hid h
  have hgw : g < w.heap.size := h.2.1
  have hww : Hid (w0.heap.size ≤ w.heap.size) := h.2.2.1.size
  clear hc h
  go_enter Try.func99, Try.ntmps99
  go_wp2_with fail
  refine (spec_tincture w0 _ g A len cap n HC.out (by omega) (H.out.alloc _)).mono ?_
  rintro e w1 ⟨v, rfl, hv0, hv1, hg1, hc1⟩
  have B0 : Blk w1 w.heap.size 47 #[.int .i64 0, .int .i64 0, .int .i64 0, .int .i64 0] := (Blk.new w _ _).grown hg1 (by simp; omega)
  have hne : w.heap.size < w1.heap.size := B0.lt
  have S1 : St w0 w (w1.alloc (.cells #[.int .i64 0, .int .i64 0, .int .i64 v, .int .i64 0] 47)) g A len cap (n + 2) w.heap.size w1.heap.size #[.int .i64 0, .int .i64 0, .int .i64 0, .int .i64 0] #[.int .i64 0, .int .i64 0, .int .i64 v, .int .i64 0] :=
    ⟨grown_alloc (grownT' (grown_of_below (balloc (Below.refl w.heap.size w) _) (some g)) hg1) _, hc1.alloc _, B0.alloc _, Blk.new _ _ _, Nat.le_refl _, by omega, by omega, by omega, by omega⟩
  have HS1 := Lib.hid S1
  clear B0 hg1 hc1 S1
  go_wp2_with fail
  refine (spec_one 2 (by omega) (by omega) w0 _ g A len cap (n + 2) HC.out (by omega) HS1.out.cur).mono ?_
  rintro e w2 ⟨b, rfl, hg2, hc2⟩
  have HS2 := Lib.hid (HS1.out.call hg2 hc2)
  generalize w1.heap.size = b3 at *
  clear hg2 hc2 HS1 H
  cases b
  · go_wp2_with fail
    refine (spec_pick 7 (by omega) (by omega) w0 _ g A len cap (n + 2 + 2) HC.out (by omega) HS2.out.cur).mono ?_
    rintro e w3 ⟨d, rfl, hd0, hd1, hg3, hc3⟩
    have HS3 := Lib.hid (HS2.out.call hg3 hc3)
    obtain ⟨c3, f3, z3⟩ := HS3.out.facts
    clear hg3 hc3 HS2
    go_wp2_with fail
    have hx := (HS3.out.set3 hww.out 0 (.int .i64 (1 + d))).alloc (.cells #[.int .i64 0, .int .i64 0, .int .i64 1, .int .i64 2, .int .i64 3, .int .i64 4] 3)
    have hi : Ints ((w3.setCell ⟨b3, 0, none⟩ (.int .i64 (1 + d))).alloc (.cells #[.int .i64 0, .int .i64 0, .int .i64 1, .int .i64 2, .int .i64 3, .int .i64 4] 3)) w3.heap.size (.slice (some ⟨w3.heap.size, 0, none⟩) 6 6) [0, 0, 1, 2, 3, 4] :=
      ints_lit' (w3.setCell ⟨b3, 0, none⟩ (.int .i64 (1 + d))) [0, 0, 1, 2, 3, 4] #[.int .i64 0, .int .i64 0, .int .i64 1, .int .i64 2, .int .i64 3, .int .i64 4] 6 w3.heap.size (by simp) rfl rfl (by decide)
    refine (spec_among _ [0, 0, 1, 2, 3, 4] _ w0 _ g A len cap _ hi HS3.out.cur.2.1 (by simp) (by simp) HC.out (by omega) hx.cur).mono ?_
    rintro e w4 ⟨l, rfl, hl, hg4, hc4⟩
    have HS4 := Lib.hid (hx.call hg4 hc4)
    have HL : Hid (0 ≤ l ∧ l ≤ 4) := by
      show _ ∧ _
      simp at hl
      omega
    obtain ⟨c4, f4, z4⟩ := HS4.out.facts
    clear hg4 hc4 HS3 c3 f3 hi hx hl
    go_wp2_with fail
    have hS0 := HS4.out.set3 hww.out 1 (.int .i64 l)
    generalize w4.setCell ⟨b3, 1, none⟩ (.int .i64 l) = W at *
    have HS5 := Lib.hid hS0.drew
    obtain ⟨c5, f5, z5⟩ := hS0.drew.facts
    have HS5c := Lib.hid hS0.drew.cur
    clear c4 f4 z4 HS4 hS0
    go_region_with (go_at_call 76; refine (spec_pick 8 (by omega) (by omega) w0 _ g A len cap _ HC.out ?_ HS5c.out).mono ?_; omega; rintro e w5 ⟨q, rfl, hq0, hq1, hg5, hc5⟩; have HS6 := Lib.hid (HS5.out.call hg5 hc5); obtain ⟨c6, f6, z6⟩ := HS6.out.facts; clear hg5 hc5)
    all_goals
      have hn0 := HS6.out.ne
      have hn3 : ¬ b3 = w.heap.size := fun e => hn0 e.symm
      obtain ⟨c0, f0, z0⟩ := HS6.out.B0.all
      have hm := Int.emod_lt_of_pos (v + q) (show (0 : Int) < 9 by omega)
      have hm' := Int.emod_nonneg (v + q) (show (9 : Int) ≠ 0 by omega)
      have HM := Lib.hid hm
      have HM' := Lib.hid hm'
      clear hm hm'
      go_wp2
      refine bodyPost_ret (v := .agg #[.int .i64 (1 + d), .int .i64 l, .int .i64 v, .int .i64 (1 + (v + q) % 9)]) (by simp [results, Try.results99, go_sem, c0, f0, z0, c6, f6, z6, hn0, hn3]) rfl ?_
      have S := (((((HS6.out.set3 hww.out 3 (.int .i64 (1 + (v + q) % 9))).set0 hww.out 0 (.int .i64 (1 + d))).set0 hww.out 1 (.int .i64 l)).set0 hww.out 2 (.int .i64 v)).set0 hww.out 3 (.int .i64 (1 + (v + q) % 9)))
      have hl := HL.out
      have h1 := HM.out
      have h2 := HM'.out
      exact ⟨_, _, _, _, rfl, by omega, by omega, by omega, by omega, S.grown, S.cur.more (by omega)⟩
  · obtain ⟨c3, f3, z3⟩ := HS2.out.facts
    obtain ⟨c0, f0, z0⟩ := HS2.out.B0.all
    have hn0 := HS2.out.ne
    go_wp2
    refine bodyPost_ret (v := .agg #[.int .i64 0, .int .i64 0, .int .i64 v, .int .i64 0]) (by simp [results, Try.results99, go_sem, c0, f0, z0, c3, f3, z3]) rfl ?_
    have S := ((((HS2.out.set0 hww.out 0 (.int .i64 0)).set0 hww.out 1 (.int .i64 0)).set0 hww.out 2 (.int .i64 v)).set0 hww.out 3 (.int .i64 0))
    exact ⟨0, 0, v, 0, rfl, by omega, by omega, by omega, by omega, S.grown, S.cur.more (by omega)⟩
set_option maxHeartbeats 2000000 in
theorem spec_anyField (w0 w : World) (g : Nat) (A : Option Addr) (len cap n : Nat) (hc : Code w0 A len) (hn : n ≤ 700000) (h : Cur w0 w g A len cap n) :
    Calls Try.prog 75 #[.pointer (some ⟨g, 0, none⟩)] w (DrawnF w0 w g A len cap (n + 14)) := by
  have HC := Lib.hid hc
  have H := Lib.hid h
  have hgw : g < w.heap.size := h.2.1
  have hww : Hid (w0.heap.size ≤ w.heap.size) := h.2.2.1.size
  clear hc h
  go_enter Try.func75, Try.ntmps75
  go_wp2_with fail
  refine (spec_field w0 _ g A len cap n HC.out (by omega) (H.out.alloc _)).mono ?_
  rintro e w1 ⟨d, l, a, b, rfl, hd, hl, ha, hb, hg1, hc1⟩
  have B0 : Blk w1 w.heap.size 47 #[.int .i64 0, .int .i64 0, .int .i64 0, .int .i64 0] := (Blk.new w _ _).grown hg1 (by simp; omega)
  have hne : w.heap.size < w1.heap.size := B0.lt
  have S1 : St w0 w (w1.alloc (.cells #[.int .i64 d, .int .i64 l, .int .i64 a, .int .i64 b] 47)) g A len cap (n + 10) w.heap.size w1.heap.size #[.int .i64 0, .int .i64 0, .int .i64 0, .int .i64 0] #[.int .i64 d, .int .i64 l, .int .i64 a, .int .i64 b] :=
    ⟨grown_alloc (grownT' (grown_of_below (balloc (Below.refl w.heap.size w) _) (some g)) hg1) _, hc1.alloc _, B0.alloc _, Blk.new _ _ _, Nat.le_refl _, by omega, by omega, by omega, by omega⟩
  have HS1 := Lib.hid S1
  clear B0 hg1 hc1 S1
  go_wp2_with fail
  refine (spec_pick 24 (by omega) (by omega) w0 _ g A len cap (n + 10) HC.out (by omega) HS1.out.cur).mono ?_
  rintro e w2 ⟨z, rfl, hz0, hz1, hg2, hc2⟩
  have HS2 := Lib.hid (HS1.out.call hg2 hc2)
  generalize w1.heap.size = b3 at *
  clear hg2 hc2 HS1 H
  obtain ⟨c3, f3, z3⟩ := HS2.out.facts
  have hn0 := HS2.out.ne
  have hn3 : ¬ b3 = w.heap.size := fun e => hn0 e.symm
  by_cases e0 : z = 0
  · subst e0
    go_wp2_with fail
    have hi := ints_lit w2 [-1, 8, 0, 7, 1] #[.int .i64 (-1), .int .i64 8, .int .i64 0, .int .i64 7, .int .i64 1] 5 rfl rfl (by simp [maxLen])
    have hx := HS2.out.alloc (.cells #[.int .i64 (-1), .int .i64 8, .int .i64 0, .int .i64 7, .int .i64 1] 3)
    refine (spec_among _ [-1, 8, 0, 7, 1] _ w0 _ g A len cap _ hi HS2.out.cur.2.1 (by simp) (by simp) HC.out (by omega) hx.cur).mono ?_
    rintro e w3 ⟨x, rfl, hm, hg3, hc3⟩
    have HS3 := Lib.hid (hx.call hg3 hc3)
    have HX : Hid (-100 ≤ x ∧ x ≤ 100) := by
      show _ ∧ _
      simp at hm
      omega
    obtain ⟨c4, f4, z4⟩ := HS3.out.facts
    obtain ⟨c0, f0, z0⟩ := HS3.out.B0.all
    clear hi hx hg3 hc3 c3 f3 HS2 hm
    go_wp2
    refine bodyPost_ret (v := .agg #[.int .i64 x, .int .i64 l, .int .i64 a, .int .i64 b]) (by simp [results, Try.results75, go_sem, c0, f0, z0, c4, f4, z4, hn0, hn3]) rfl ?_
    have S := (((((HS3.out.set3 hww.out 0 (.int .i64 x)).set0 hww.out 0 (.int .i64 x)).set0 hww.out 1 (.int .i64 l)).set0 hww.out 2 (.int .i64 a)).set0 hww.out 3 (.int .i64 b))
    exact ⟨_, _, _, _, rfl, by first | omega | exact HX.out, by first | omega | exact HX.out, by first | omega | exact HX.out, by first | omega | exact HX.out, S.grown, S.cur.more (by omega)⟩
  by_cases e1 : z = 1
  · subst e1
    go_wp2_with fail
    have hi := ints_lit w2 [-1, 5, 1, 4] #[.int .i64 (-1), .int .i64 5, .int .i64 1, .int .i64 4] 4 rfl rfl (by simp [maxLen])
    have hx := HS2.out.alloc (.cells #[.int .i64 (-1), .int .i64 5, .int .i64 1, .int .i64 4] 3)
    refine (spec_among _ [-1, 5, 1, 4] _ w0 _ g A len cap _ hi HS2.out.cur.2.1 (by simp) (by simp) HC.out (by omega) hx.cur).mono ?_
    rintro e w3 ⟨x, rfl, hm, hg3, hc3⟩
    have HS3 := Lib.hid (hx.call hg3 hc3)
    have HX : Hid (-100 ≤ x ∧ x ≤ 100) := by
      show _ ∧ _
      simp at hm
      omega
    obtain ⟨c4, f4, z4⟩ := HS3.out.facts
    obtain ⟨c0, f0, z0⟩ := HS3.out.B0.all
    clear hi hx hg3 hc3 c3 f3 HS2 hm
    go_wp2
    refine bodyPost_ret (v := .agg #[.int .i64 d, .int .i64 x, .int .i64 a, .int .i64 b]) (by simp [results, Try.results75, go_sem, c0, f0, z0, c4, f4, z4, hn0, hn3]) rfl ?_
    have S := (((((HS3.out.set3 hww.out 1 (.int .i64 x)).set0 hww.out 0 (.int .i64 d)).set0 hww.out 1 (.int .i64 x)).set0 hww.out 2 (.int .i64 a)).set0 hww.out 3 (.int .i64 b))
    exact ⟨_, _, _, _, rfl, by first | omega | exact HX.out, by first | omega | exact HX.out, by first | omega | exact HX.out, by first | omega | exact HX.out, S.grown, S.cur.more (by omega)⟩
  by_cases e2 : z = 2
  · subst e2
    go_wp2_with fail
    have hi := ints_lit w2 [0, 10, 9] #[.int .i64 0, .int .i64 10, .int .i64 9] 3 rfl rfl (by simp [maxLen])
    have hx := HS2.out.alloc (.cells #[.int .i64 0, .int .i64 10, .int .i64 9] 3)
    refine (spec_among _ [0, 10, 9] _ w0 _ g A len cap _ hi HS2.out.cur.2.1 (by simp) (by simp) HC.out (by omega) hx.cur).mono ?_
    rintro e w3 ⟨x, rfl, hm, hg3, hc3⟩
    have HS3 := Lib.hid (hx.call hg3 hc3)
    have HX : Hid (-100 ≤ x ∧ x ≤ 100) := by
      show _ ∧ _
      simp at hm
      omega
    obtain ⟨c4, f4, z4⟩ := HS3.out.facts
    obtain ⟨c0, f0, z0⟩ := HS3.out.B0.all
    clear hi hx hg3 hc3 c3 f3 HS2 hm
    go_wp2
    refine bodyPost_ret (v := .agg #[.int .i64 d, .int .i64 l, .int .i64 x, .int .i64 b]) (by simp [results, Try.results75, go_sem, c0, f0, z0, c4, f4, z4, hn0, hn3]) rfl ?_
    have S := (((((HS3.out.set3 hww.out 2 (.int .i64 x)).set0 hww.out 0 (.int .i64 d)).set0 hww.out 1 (.int .i64 l)).set0 hww.out 2 (.int .i64 x)).set0 hww.out 3 (.int .i64 b))
    exact ⟨_, _, _, _, rfl, by first | omega | exact HX.out, by first | omega | exact HX.out, by first | omega | exact HX.out, by first | omega | exact HX.out, S.grown, S.cur.more (by omega)⟩
  by_cases e3 : z = 3
  · subst e3
    go_wp2_with fail
    have hi := ints_lit w2 [0, 10, a, 9] #[.int .i64 0, .int .i64 10, .int .i64 a, .int .i64 9] 4 rfl rfl (by simp [maxLen])
    have hx := HS2.out.alloc (.cells #[.int .i64 0, .int .i64 10, .int .i64 a, .int .i64 9] 3)
    refine (spec_among _ [0, 10, a, 9] _ w0 _ g A len cap _ hi HS2.out.cur.2.1 (by simp) (by simp) HC.out (by omega) hx.cur).mono ?_
    rintro e w3 ⟨x, rfl, hm, hg3, hc3⟩
    have HS3 := Lib.hid (hx.call hg3 hc3)
    have HX : Hid (-100 ≤ x ∧ x ≤ 100) := by
      show _ ∧ _
      simp at hm
      omega
    obtain ⟨c4, f4, z4⟩ := HS3.out.facts
    obtain ⟨c0, f0, z0⟩ := HS3.out.B0.all
    clear hi hx hg3 hc3 c3 f3 HS2 hm
    go_wp2
    refine bodyPost_ret (v := .agg #[.int .i64 d, .int .i64 l, .int .i64 a, .int .i64 x]) (by simp [results, Try.results75, go_sem, c0, f0, z0, c4, f4, z4, hn0, hn3]) rfl ?_
    have S := (((((HS3.out.set3 hww.out 3 (.int .i64 x)).set0 hww.out 0 (.int .i64 d)).set0 hww.out 1 (.int .i64 l)).set0 hww.out 2 (.int .i64 a)).set0 hww.out 3 (.int .i64 x))
    exact ⟨_, _, _, _, rfl, by first | omega | exact HX.out, by first | omega | exact HX.out, by first | omega | exact HX.out, by first | omega | exact HX.out, S.grown, S.cur.more (by omega)⟩
  have n0 : (z == 0) = false := by simpa using e0
  have n1 : (z == 1) = false := by simpa using e1
  have n2 : (z == 2) = false := by simpa using e2
  have n3 : (z == 3) = false := by simpa using e3
  obtain ⟨c0, f0, z0⟩ := HS2.out.B0.all
  clear e0 e1 e2 e3
  go_wp2
  refine bodyPost_ret (v := .agg #[.int .i64 d, .int .i64 l, .int .i64 a, .int .i64 b]) (by simp [results, Try.results75, go_sem, c0, f0, z0, c3, f3, z3, hn0, hn3]) rfl ?_
  have S := ((((HS2.out.set0 hww.out 0 (.int .i64 d)).set0 hww.out 1 (.int .i64 l)).set0 hww.out 2 (.int .i64 a)).set0 hww.out 3 (.int .i64 b))
  exact ⟨_, _, _, _, rfl, hd, hl, ha, hb, S.grown, S.cur.more (by omega)⟩
/-- Two small fields. -/
def DrawnFF (w : World) (e : Ending) (w' : World) : Prop :=
  ∃ d l a b d' l' a' b' : Int, e = .returned (.tuple #[.agg #[.int .i64 d, .int .i64 l, .int .i64 a, .int .i64 b], .agg #[.int .i64 d', .int .i64 l', .int .i64 a', .int .i64 b']]) ∧ ((-100 ≤ d ∧ d ≤ 100) ∧ (-100 ≤ l ∧ l ≤ 100) ∧ (-100 ≤ a ∧ a ≤ 100) ∧ (-100 ≤ b ∧ b ≤ 100)) ∧
    ((-100 ≤ d' ∧ d' ≤ 100) ∧ (-100 ≤ l' ∧ l' ≤ 100) ∧ (-100 ≤ a' ∧ a' ≤ 100) ∧ (-100 ≤ b' ∧ b' ≤ 100)) ∧ Below w.heap.size w w'
theorem below_set {a b : World} (h : Below a.heap.size a b) {p : Addr} (hp : a.heap.size ≤ p.block) (u : Value) : Below a.heap.size a (b.setCell p u) := h.setCell hp u
theorem below_drew' {a b : World} (h : Below a.heap.size a b) : Below a.heap.size a b.drew := h.drew
theorem some_ne {a b : Nat} (h : a ≠ b) : some a ≠ some b := fun e => h (by injection e)
theorem cur_new' {w W : World} (h : Below w.heap.size w W) (A : Option Addr) (len cap g : Nat) (hg : W.heap.size = g) : Cur w (W.alloc (.cells #[.slice A len cap, .int .i64 0, .int .u64 0] 78)) g A len cap 0 := by
  subst hg
  exact ⟨h.size, by simp, balloc h _, 0, 0, Nat.le_refl _, Blk.new _ _ _⟩
set_option maxHeartbeats 6000000 in
theorem spec_DrawFieldDifferences (A : Option Addr) (len cap : Nat) (w : World) (hc : Code w A len) : Calls Try.prog 43 #[.slice A len cap] w (DrawnFF w) := by
  have HC := Lib.hid hc
  clear hc
  go_enter Try.func43, Try.ntmps43
  go_wp2_with fail
  have h00 := blk_two w 47 47 #[.int .i64 0, .int .i64 0, .int .i64 0, .int .i64 0] #[.int .i64 0, .int .i64 0, .int .i64 0, .int .i64 0]
  have hC0 := cur_new' (balloc (balloc (Below.refl w.heap.size w) (.cells #[.int .i64 0, .int .i64 0, .int .i64 0, .int .i64 0] 47)) (.cells #[.int .i64 0, .int .i64 0, .int .i64 0, .int .i64 0] 47)) A len cap (w.heap.size + 1 + 1) (by simp)
  refine (spec_anyField w _ (w.heap.size + 1 + 1) A len cap 0 HC.out (by omega) hC0).mono ?_
  rintro e w1 ⟨d, l, a, b, rfl, hd, hl, ha, hb, hg1, hc1⟩
  have HR0 := Lib.hid ((h00.1.alloc _).grown hg1 (some_ne (by omega)))
  have HR1 := Lib.hid ((h00.2.alloc _).grown hg1 (some_ne (by omega)))
  have HC1 := Lib.hid hc1
  have hz1 : w.heap.size + 1 + 1 < w1.heap.size := hc1.2.1
  clear h00 hC0 hg1 hc1
  go_wp2_with fail
  have h2 := blk_two w1 47 47 #[.int .i64 d, .int .i64 l, .int .i64 a, .int .i64 b] #[.int .i64 d, .int .i64 l, .int .i64 a, .int .i64 b]
  refine (spec_pick 4 (by omega) (by omega) w _ (w.heap.size + 1 + 1) A len cap (0 + 14) HC.out (by omega) ((HC1.out.alloc _).alloc _)).mono ?_
  rintro e w2 ⟨z, rfl, hz0, hzz, hg2, hc2⟩
  have HA := Lib.hid (h2.1.grown hg2 (some_ne (by omega)))
  have HB := Lib.hid (h2.2.grown hg2 (some_ne (by omega)))
  have HR0 := Lib.hid (((HR0.out.alloc _).alloc _).grown hg2 (some_ne (by omega)))
  have HR1 := Lib.hid (((HR1.out.alloc _).alloc _).grown hg2 (some_ne (by omega)))
  have HC2 := Lib.hid hc2
  generalize hba : w1.heap.size = ba at *
  have hbb : w.heap.size + 1 + 1 < ba := by omega
  clear h2 hg2 hc2 HC1 hba
  obtain ⟨qb, fb, zb⟩ := HB.out.all
  by_cases e0 : z = 0
  · subst e0
    go_wp2_with fail
    refine (spec_anyField w _ (w.heap.size + 1 + 1) A len cap (0 + 14 + 2) HC.out (by omega) HC2.out).mono ?_
    rintro e w3 ⟨d', l', a', b', rfl, hd', hl', ha', hb', hg3, hc3⟩
    have HA := Lib.hid (HA.out.grown hg3 (some_ne (by omega)))
    have HB := Lib.hid (HB.out.grown hg3 (some_ne (by omega)))
    have HR0 := Lib.hid (HR0.out.grown hg3 (some_ne (by omega)))
    have HR1 := Lib.hid (HR1.out.grown hg3 (some_ne (by omega)))
    obtain ⟨sb, tb, ub⟩ := HB.out.all
    have HC3 := Lib.hid hc3
    clear hg3 hc3 HC2 qb fb zb
    go_wp2
    have W0 := ((((HR0.out.far (p := ⟨ba + 1, 0, none⟩) (by first | (simp; done) | (simp; omega)) (.int .i64 d')).far (p := ⟨ba + 1, 1, none⟩) (by first | (simp; done) | (simp; omega)) (.int .i64 l')).far (p := ⟨ba + 1, 2, none⟩) (by first | (simp; done) | (simp; omega)) (.int .i64 a')).far (p := ⟨ba + 1, 3, none⟩) (by first | (simp; done) | (simp; omega)) (.int .i64 b'))
    have W1 := ((((HR1.out.far (p := ⟨ba + 1, 0, none⟩) (by first | (simp; done) | (simp; omega)) (.int .i64 d')).far (p := ⟨ba + 1, 1, none⟩) (by first | (simp; done) | (simp; omega)) (.int .i64 l')).far (p := ⟨ba + 1, 2, none⟩) (by first | (simp; done) | (simp; omega)) (.int .i64 a')).far (p := ⟨ba + 1, 3, none⟩) (by first | (simp; done) | (simp; omega)) (.int .i64 b'))
    have WA := ((((HA.out.far (p := ⟨ba + 1, 0, none⟩) (by first | (simp; done) | (simp; omega)) (.int .i64 d')).far (p := ⟨ba + 1, 1, none⟩) (by first | (simp; done) | (simp; omega)) (.int .i64 l')).far (p := ⟨ba + 1, 2, none⟩) (by first | (simp; done) | (simp; omega)) (.int .i64 a')).far (p := ⟨ba + 1, 3, none⟩) (by first | (simp; done) | (simp; omega)) (.int .i64 b'))
    have WB := ((((HB.out.set_ 0 (.int .i64 d')).set_ 1 (.int .i64 l')).set_ 2 (.int .i64 a')).set_ 3 (.int .i64 b'))
    have HWW := (below_set (below_set (below_set (below_set HC3.out.2.2.1 (p := ⟨ba + 1, 0, none⟩) (by first | (simp; done) | (simp; omega)) (.int .i64 d')) (p := ⟨ba + 1, 1, none⟩) (by first | (simp; done) | (simp; omega)) (.int .i64 l')) (p := ⟨ba + 1, 2, none⟩) (by first | (simp; done) | (simp; omega)) (.int .i64 a')) (p := ⟨ba + 1, 3, none⟩) (by first | (simp; done) | (simp; omega)) (.int .i64 b'))
    generalize ((((w3.setCell ⟨ba + 1, 0, none⟩ (.int .i64 d')).setCell ⟨ba + 1, 1, none⟩ (.int .i64 l')).setCell ⟨ba + 1, 2, none⟩ (.int .i64 a')).setCell ⟨ba + 1, 3, none⟩ (.int .i64 b')) = W at *
    clear sb tb ub
    have hRW := Lib.hid HWW
    obtain ⟨q0, f0, z0⟩ := W0.all
    obtain ⟨q1, f1, z1⟩ := W1.all
    obtain ⟨qa, za⟩ := WA.facts
    obtain ⟨rb, gb, yb⟩ := WB.all
    have HW0 := Lib.hid W0
    have HW1 := Lib.hid W1
    clear HR0 HR1 HA HB W0 W1 WA WB HWW
    go_region
    all_goals
      go_wp2
      refine bodyPost_ret (v := .tuple #[.agg #[.int .i64 d, .int .i64 l, .int .i64 a, .int .i64 b], .agg #[.int .i64 d', .int .i64 l', .int .i64 a', .int .i64 b']]) (by simp [results, Try.results43, go_sem, q0, q1, f0, f1, z0, z1]) rfl ?_
      exact ⟨_, _, _, _, _, _, _, _, rfl, ⟨hd, hl, ha, hb⟩, ⟨hd', hl', ha', hb'⟩, (by repeat (first | (with_reducible exact hRW.out) | (with_reducible refine below_set ?_ (by simp) _) | (with_reducible refine below_drew' ?_)))⟩
  by_cases e1 : z = 1
  · subst e1
    go_wp2_with fail
    refine (spec_pick 5 (by omega) (by omega) w _ (w.heap.size + 1 + 1) A len cap (0 + 14 + 2) HC.out (by omega) HC2.out).mono ?_
    rintro e w3 ⟨x, rfl, hx0, hx1, hg3, hc3⟩
    have HA := Lib.hid (HA.out.grown hg3 (some_ne (by omega)))
    have HB := Lib.hid (HB.out.grown hg3 (some_ne (by omega)))
    have HR0 := Lib.hid (HR0.out.grown hg3 (some_ne (by omega)))
    have HR1 := Lib.hid (HR1.out.grown hg3 (some_ne (by omega)))
    obtain ⟨sb, tb, ub⟩ := HB.out.all
    have HC3 := Lib.hid hc3
    clear hg3 hc3 HC2 qb fb zb
    go_wp2
    have W0 := (HR0.out.far (p := ⟨ba + 1, 1, none⟩) (by first | (simp; done) | (simp; omega)) (.int .i64 x))
    have W1 := (HR1.out.far (p := ⟨ba + 1, 1, none⟩) (by first | (simp; done) | (simp; omega)) (.int .i64 x))
    have WA := (HA.out.far (p := ⟨ba + 1, 1, none⟩) (by first | (simp; done) | (simp; omega)) (.int .i64 x))
    have WB := (HB.out.set_ 1 (.int .i64 x))
    have HWW := (below_set HC3.out.2.2.1 (p := ⟨ba + 1, 1, none⟩) (by first | (simp; done) | (simp; omega)) (.int .i64 x))
    generalize (w3.setCell ⟨ba + 1, 1, none⟩ (.int .i64 x)) = W at *
    clear sb tb ub
    have hRW := Lib.hid HWW
    obtain ⟨q0, f0, z0⟩ := W0.all
    obtain ⟨q1, f1, z1⟩ := W1.all
    obtain ⟨qa, za⟩ := WA.facts
    obtain ⟨rb, gb, yb⟩ := WB.all
    have HW0 := Lib.hid W0
    have HW1 := Lib.hid W1
    clear HR0 HR1 HA HB W0 W1 WA WB HWW
    go_region
    all_goals
      go_wp2
      refine bodyPost_ret (v := .tuple #[.agg #[.int .i64 d, .int .i64 l, .int .i64 a, .int .i64 b], .agg #[.int .i64 d, .int .i64 x, .int .i64 a, .int .i64 b]]) (by simp [results, Try.results43, go_sem, q0, q1, f0, f1, z0, z1]) rfl ?_
      exact ⟨_, _, _, _, _, _, _, _, rfl, ⟨hd, hl, ha, hb⟩, ⟨hd, ⟨by omega, by omega⟩, ha, hb⟩, (by repeat (first | (with_reducible exact hRW.out) | (with_reducible refine below_set ?_ (by simp) _) | (with_reducible refine below_drew' ?_)))⟩
  by_cases e2 : z = 2
  · subst e2
    go_wp2_with fail
    refine (spec_tincture w _ (w.heap.size + 1 + 1) A len cap (0 + 14 + 2) HC.out (by omega) HC2.out).mono ?_
    rintro e w3 ⟨x, rfl, hx0, hx1, hg3, hc3⟩
    have HA := Lib.hid (HA.out.grown hg3 (some_ne (by omega)))
    have HB := Lib.hid (HB.out.grown hg3 (some_ne (by omega)))
    have HR0 := Lib.hid (HR0.out.grown hg3 (some_ne (by omega)))
    have HR1 := Lib.hid (HR1.out.grown hg3 (some_ne (by omega)))
    obtain ⟨sb, tb, ub⟩ := HB.out.all
    have HC3 := Lib.hid hc3
    clear hg3 hc3 HC2 qb fb zb
    go_wp2
    have W0 := (HR0.out.far (p := ⟨ba + 1, 2, none⟩) (by first | (simp; done) | (simp; omega)) (.int .i64 x))
    have W1 := (HR1.out.far (p := ⟨ba + 1, 2, none⟩) (by first | (simp; done) | (simp; omega)) (.int .i64 x))
    have WA := (HA.out.far (p := ⟨ba + 1, 2, none⟩) (by first | (simp; done) | (simp; omega)) (.int .i64 x))
    have WB := (HB.out.set_ 2 (.int .i64 x))
    have HWW := (below_set HC3.out.2.2.1 (p := ⟨ba + 1, 2, none⟩) (by first | (simp; done) | (simp; omega)) (.int .i64 x))
    generalize (w3.setCell ⟨ba + 1, 2, none⟩ (.int .i64 x)) = W at *
    clear sb tb ub
    have hRW := Lib.hid HWW
    obtain ⟨q0, f0, z0⟩ := W0.all
    obtain ⟨q1, f1, z1⟩ := W1.all
    obtain ⟨qa, za⟩ := WA.facts
    obtain ⟨rb, gb, yb⟩ := WB.all
    have HW0 := Lib.hid W0
    have HW1 := Lib.hid W1
    clear HR0 HR1 HA HB W0 W1 WA WB HWW
    go_region
    all_goals
      go_wp2
      refine bodyPost_ret (v := .tuple #[.agg #[.int .i64 d, .int .i64 l, .int .i64 a, .int .i64 b], .agg #[.int .i64 d, .int .i64 l, .int .i64 x, .int .i64 b]]) (by simp [results, Try.results43, go_sem, q0, q1, f0, f1, z0, z1]) rfl ?_
      exact ⟨_, _, _, _, _, _, _, _, rfl, ⟨hd, hl, ha, hb⟩, ⟨hd, hl, ⟨by omega, by omega⟩, hb⟩, (by repeat (first | (with_reducible exact hRW.out) | (with_reducible refine below_set ?_ (by simp) _) | (with_reducible refine below_drew' ?_)))⟩
  have n0 : (z == 0) = false := by simpa using e0
  have n1 : (z == 1) = false := by simpa using e1
  have n2 : (z == 2) = false := by simpa using e2
  clear e0 e1 e2
  go_wp2
  have W0 := HR0.out
  have W1 := HR1.out
  have WA := HA.out
  have WB := HB.out
  have HWW := HC2.out.2.2.1
  have hRW := Lib.hid HWW
  obtain ⟨q0, f0, z0⟩ := W0.all
  obtain ⟨q1, f1, z1⟩ := W1.all
  obtain ⟨qa, za⟩ := WA.facts
  obtain ⟨rb, gb, yb⟩ := WB.all
  have HW0 := Lib.hid W0
  have HW1 := Lib.hid W1
  clear HR0 HR1 HA HB W0 W1 WA WB HWW
  go_region
  all_goals
    go_wp2
    refine bodyPost_ret (v := .tuple #[.agg #[.int .i64 d, .int .i64 l, .int .i64 a, .int .i64 b], .agg #[.int .i64 d, .int .i64 l, .int .i64 a, .int .i64 b]]) (by simp [results, Try.results43, go_sem, q0, q1, f0, f1, z0, z1]) rfl ?_
    exact ⟨_, _, _, _, _, _, _, _, rfl, ⟨hd, hl, ha, hb⟩, ⟨hd, hl, ha, hb⟩, (by repeat (first | (with_reducible exact hRW.out) | (with_reducible refine below_set ?_ (by simp) _) | (with_reducible refine below_drew' ?_)))⟩
end Go.Proofs.Ytmemabeackgioaa
