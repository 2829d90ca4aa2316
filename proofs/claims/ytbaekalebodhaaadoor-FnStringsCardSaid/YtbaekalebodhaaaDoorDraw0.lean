/- The cursor of the drawn inputs, its first steps. Conditions: as each theorem says. -/
import Derived.Test.YtbaekalebodhaaaDoorRows
import Derived.Test.YtbaekalebodhaaaDoorOwn
import Derived.Deep.MidRow
import Derived.Laws.BitsAllLaws
namespace Go.Proofs.YtbaekalebodhaaaDoor
set_option linter.unusedSimpArgs false
set_option linter.unusedVariables false
open Go.ChangeShapes Go.WideShapes Go.ChangeAt Go.RowKit

theorem addD_block (a : Addr) (n : Nat) : (a.add n).block = a.block := by unfold Addr.add; split <;> rfl
/-- Bytes that lie in memory. -/
def Code (w0 : World) (A : Option Addr) (len : Nat) : Prop := len ≤ 65536 ∧ ∀ i, i < len → ∃ (x : Addr) (v : Int), A = some x ∧ x.block < w0.heap.size ∧ w0.cell? (x.add i) = some (.int .u8 v) ∧ 0 ≤ v ∧ v ≤ 255
/-- The cursor in block g: at most n steps taken. -/
def Cur (w0 w : World) (g : Nat) (A : Option Addr) (len cap n : Nat) : Prop :=
  w0.heap.size ≤ g ∧ g < w.heap.size ∧ Below w0.heap.size w0 w ∧ ∃ (p : Nat) (s : Int), p ≤ n ∧ Blk w g 43 #[.slice A len cap, .int .i64 (p : Int), .int .u64 s]
theorem Cur.below {w0 w w' : World} {g : Nat} {A : Option Addr} {len cap n : Nat} (h : Cur w0 w g A len cap n) (hb : Below w.heap.size w w') : Cur w0 w' g A len cap n := by
  obtain ⟨h1, h2, h3, p, s, h4, h5⟩ := h
  exact ⟨h1, Nat.lt_of_lt_of_le h2 hb.size, bstep h3 hb, p, s, h4, h5.below hb⟩
/-- What a draw has done: a number in a range; only the cursor's block has turned. -/
def Drawn (lo hi : Int) (w0 w : World) (g : Nat) (A : Option Addr) (len cap n : Nat) (e : Ending) (w' : World) : Prop :=
  ∃ v : Int, e = .returned (.int .i64 v) ∧ lo ≤ v ∧ v ≤ hi ∧ w.grownBy w' (some g) ∧ Cur w0 w' g A len cap n
theorem grown_drewN {w W : World} {r : Option Nat} (h : w.grownBy W r) (n : Nat) : w.grownBy (W.drewN n) r := ⟨h.os, h.tape, h.output, h.size, h.block⟩
theorem seed_and (S : Int) (h0 : 0 ≤ S) (h1 : S < 18446744073709551616) : 0 ≤ wrap64 (bits BinOp.and IntKind.u64 (S / 1099511627776) 255) ∧ wrap64 (bits BinOp.and IntKind.u64 (S / 1099511627776) 255) ≤ 255 := by
  have hd0 : 0 ≤ S / 1099511627776 := by omega
  have hd1 : S / 1099511627776 < 18446744073709551616 := by omega
  rw [u64_and _ _ hd0 hd1 (by omega) (by omega)]
  have hle : (S / 1099511627776).toNat &&& (255 : Int).toNat ≤ 255 := Nat.and_le_right
  generalize (S / 1099511627776).toNat &&& (255 : Int).toNat = q at *
  unfold wrap64
  omega
set_option maxHeartbeats 1000000 in
theorem spec_next (w0 w : World) (g : Nat) (A : Option Addr) (len cap n : Nat) (hc : Code w0 A len) (hn : n ≤ 1000000) (h : Cur w0 w g A len cap n) :
    Calls Tryd.prog 41 #[.pointer (some ⟨g, 0, none⟩)] w (Drawn 0 255 w0 w g A len cap (n + 1)) := by
  obtain ⟨h1, h2, h3, p, s, h4, h5⟩ := h
  have hlen := hc.1
  have HC := Lib.hid hc.2
  have H3 := Lib.hid h3
  have H5 := Lib.hid h5
  obtain ⟨c1, f1, z1⟩ := h5.all
  clear hc h3 h5
  by_cases hlt : p < len
  · obtain ⟨x, v, rfl, hx, hv, hv0, hv1⟩ := HC.out p hlt
    have hcell := (H3.out.cell (p := x.add p) (by rw [addD_block]; exact hx)).trans hv
    clear hv
    have h3' : w0.heap.size ≤ w.heap.size := H3.out.size
    have T1 : ∀ k S, w.grownBy (((w.drewN k).setCell ⟨g, 1, none⟩ (.int .i64 ((p : Int) + 1))).setCell ⟨g, 2, none⟩ (.int .u64 S)) (some g) := fun k S =>
      ⟨rfl, rfl, rfl, by simp, fun b hb hne => by rw [Below.heap_setCell _ _ _ _ (fun e => hne (by rw [e])), Below.heap_setCell _ _ _ _ (fun e => hne (by rw [e]))]; rfl⟩
    have T2 : ∀ k S, Blk (((w.drewN k).setCell ⟨g, 1, none⟩ (.int .i64 ((p : Int) + 1))).setCell ⟨g, 2, none⟩ (.int .u64 S)) g 43 #[.slice (some x) len cap, .int .i64 ((p : Int) + 1), .int .u64 S] := fun k S =>
      ((show Blk (w.drewN k) g 43 _ from H5.out).set_ 1 _).set_ 2 _
    have HT1 := Lib.hid T1
    have HT2 := Lib.hid T2
    clear T1 T2
    go_enter Tryd.func41, Tryd.ntmps41
    go_wp2
    go_quiet (fail)
    generalize nq = n1
    go_wp2
    go_quiet (fail)
    go_wp2
    generalize hS : IntKind.u64.wrap (IntKind.u64.wrap (IntKind.u64.wrap (s * 6364136223846793005) + v) + 884884) = S
    have G := HT1.out (n1 + nq) S
    have B := HT2.out (n1 + nq) S
    generalize ((w.drewN (n1 + nq)).setCell ⟨g, 1, none⟩ (.int .i64 ((p : Int) + 1))).setCell ⟨g, 2, none⟩ (.int .u64 S) = W at *
    have HG := Lib.hid G
    obtain ⟨d1, y1⟩ := B.facts
    have HB := Lib.hid B
    clear G B c1 f1 z1
    go_quiet (fail)
    go_wp2
    go_ret
    have GG := grown_drewN HG.out nq
    refine ⟨_, rfl, hv0, hv1, GG, h1, Nat.lt_of_lt_of_le h2 GG.size, (H3.out.grown GG h3' (fun k hk => by injection hk with hk; omega)), p + 1, S, by omega, ?_⟩
    have := HB.out
    rw [show (((p + 1 : Nat) : Nat) : Int) = (p : Int) + 1 by omega]
    exact this
  · have h3' : w0.heap.size ≤ w.heap.size := H3.out.size
    have T1 : ∀ k S, w.grownBy (((w.drewN k).setCell ⟨g, 1, none⟩ (.int .i64 ((p : Int) + 1))).setCell ⟨g, 2, none⟩ (.int .u64 S)) (some g) := fun k S =>
      ⟨rfl, rfl, rfl, by simp, fun b hb hne => by rw [Below.heap_setCell _ _ _ _ (fun e => hne (by rw [e])), Below.heap_setCell _ _ _ _ (fun e => hne (by rw [e]))]; rfl⟩
    have T2 : ∀ k S, Blk (((w.drewN k).setCell ⟨g, 1, none⟩ (.int .i64 ((p : Int) + 1))).setCell ⟨g, 2, none⟩ (.int .u64 S)) g 43 #[.slice A len cap, .int .i64 ((p : Int) + 1), .int .u64 S] := fun k S =>
      ((show Blk (w.drewN k) g 43 _ from H5.out).set_ 1 _).set_ 2 _
    have HT1 := Lib.hid T1
    have HT2 := Lib.hid T2
    clear T1 T2
    go_enter Tryd.func41, Tryd.ntmps41
    go_wp2
    go_quiet (fail)
    go_wp2
    generalize hS : IntKind.u64.wrap (IntKind.u64.wrap (IntKind.u64.wrap (s * 6364136223846793005)) + 884884) = S
    have HSR : Hid (0 ≤ wrap64 (bits BinOp.and IntKind.u64 (S / 1099511627776) 255) ∧ wrap64 (bits BinOp.and IntKind.u64 (S / 1099511627776) 255) ≤ 255) :=
      seed_and S (by rw [← hS]; exact Int.emod_nonneg _ (by decide)) (by rw [← hS]; exact Int.emod_lt_of_pos _ (by decide))
    have hS0 : 0 ≤ S := by rw [← hS]; exact Int.emod_nonneg _ (by decide)
    have G := HT1.out nq S
    have B := HT2.out nq S
    clear hS
    generalize nq = n1 at *
    generalize ((w.drewN n1).setCell ⟨g, 1, none⟩ (.int .i64 ((p : Int) + 1))).setCell ⟨g, 2, none⟩ (.int .u64 S) = W at *
    have HG := Lib.hid G
    obtain ⟨d1, y1⟩ := B.facts
    have HB := Lib.hid B
    clear G B c1 f1 z1
    go_quiet (fail)
    go_wp2
    go_ret
    have GG := grown_drewN HG.out nq
    refine ⟨_, rfl, HSR.out.1, HSR.out.2, GG, h1, Nat.lt_of_lt_of_le h2 GG.size, (H3.out.grown GG h3' (fun k hk => by injection hk with hk; omega)), p + 1, S, by omega, ?_⟩
    have := HB.out
    rw [show (((p + 1 : Nat) : Nat) : Int) = (p : Int) + 1 by omega]
    exact this
theorem Drawn.more {lo hi lo' hi' : Int} {w0 w w' : World} {g : Nat} {A : Option Addr} {len cap n n' : Nat} {e : Ending} (h : Drawn lo hi w0 w g A len cap n e w') (h1 : lo' ≤ lo) (h2 : hi ≤ hi') (h3 : n ≤ n') : Drawn lo' hi' w0 w g A len cap n' e w' := by
  obtain ⟨v, he, hv0, hv1, hg, a, b, c, p, s, hp, hB⟩ := h
  exact ⟨v, he, by omega, by omega, hg, a, b, c, p, s, by omega, hB⟩
theorem grownT' {w w1 w2 : World} {r : Option Nat} (h : w.grownBy w1 r) (h' : w1.grownBy w2 r) : w.grownBy w2 r :=
  ⟨h'.os.trans h.os, h'.tape.trans h.tape, h'.output.trans h.output, Nat.le_trans h.size h'.size, fun b hb hne => (h'.block b (Nat.lt_of_lt_of_le hb h.size) hne).trans (h.block b hb hne)⟩
theorem Cur.more {w0 w : World} {g : Nat} {A : Option Addr} {len cap n n' : Nat} (h : Cur w0 w g A len cap n) (hn : n ≤ n') : Cur w0 w g A len cap n' := by
  obtain ⟨a, b, c, p, s, hp, hB⟩ := h
  exact ⟨a, b, c, p, s, by omega, hB⟩
theorem spec_pick (m : Int) (hm0 : 1 ≤ m) (hm : m ≤ 100000) (w0 w : World) (g : Nat) (A : Option Addr) (len cap n : Nat) (hc : Code w0 A len) (hn : n ≤ 900000) (h : Cur w0 w g A len cap n) :
    Calls Tryd.prog 26 #[.pointer (some ⟨g, 0, none⟩), .int .i64 m] w (Drawn 0 (m - 1) w0 w g A len cap (n + 2)) := by
  have HC := Lib.hid hc
  have H := Lib.hid h
  clear hc h
  by_cases h1 : m ≤ 1
  · go_enter Tryd.func26, Tryd.ntmps26
    go_wp2
    go_ret
    exact ⟨0, rfl, by omega, by omega, World.grownBy.refl _ _, H.out.more (by omega)⟩
  · have hp : 0 < m := by omega
    by_cases h2 : 200 < m
    · go_enter Tryd.func26, Tryd.ntmps26
      go_wp2_with fail
      refine (spec_next w0 _ g A len cap n HC.out (by omega) H.out).mono ?_
      rintro e w1 ⟨v, rfl, hv0, hv1, hg1, hc1⟩
      have HG1 := Lib.hid hg1
      have HC1 := Lib.hid hc1
      clear hg1 hc1
      go_wp2_with fail
      refine (spec_next w0 _ g A len cap (n + 1) HC.out (by omega) HC1.out).mono ?_
      rintro e w2 ⟨u, rfl, hu0, hu1, hg2, hc2⟩
      have HG2 := Lib.hid hg2
      have HC2 := Lib.hid hc2
      clear hg2 hc2
      go_wp2
      go_ret
      exact ⟨_, rfl, Int.emod_nonneg _ (by omega), by have := Int.emod_lt_of_pos (v * 256 + u) hp; omega, grownT' HG1.out HG2.out, HC2.out⟩
    · go_enter Tryd.func26, Tryd.ntmps26
      go_wp2_with fail
      refine (spec_next w0 _ g A len cap n HC.out (by omega) H.out).mono ?_
      rintro e w1 ⟨v, rfl, hv0, hv1, hg1, hc1⟩
      have HG1 := Lib.hid hg1
      have HC1 := Lib.hid hc1
      clear hg1 hc1
      go_wp2
      go_ret
      exact ⟨_, rfl, Int.emod_nonneg _ (by omega), by have := Int.emod_lt_of_pos v hp; omega, HG1.out, HC1.out.more (by omega)⟩
/-- What a draw of a bool has done. -/
def DrawnB (w0 w : World) (g : Nat) (A : Option Addr) (len cap n : Nat) (e : Ending) (w' : World) : Prop :=
  ∃ b : Bool, e = .returned (.bool b) ∧ w.grownBy w' (some g) ∧ Cur w0 w' g A len cap n
theorem spec_one (m : Int) (hm0 : 1 ≤ m) (hm : m ≤ 100000) (w0 w : World) (g : Nat) (A : Option Addr) (len cap n : Nat) (hc : Code w0 A len) (hn : n ≤ 900000) (h : Cur w0 w g A len cap n) :
    Calls Tryd.prog 29 #[.pointer (some ⟨g, 0, none⟩), .int .i64 m] w (DrawnB w0 w g A len cap (n + 2)) := by
  have HC := Lib.hid hc
  have H := Lib.hid h
  clear hc h
  go_enter Tryd.func29, Tryd.ntmps29
  go_wp2_with fail
  refine (spec_pick m hm0 hm w0 _ g A len cap n HC.out hn H.out).mono ?_
  rintro e w1 ⟨v, rfl, hv0, hv1, hg1, hc1⟩
  have HG1 := Lib.hid hg1
  have HC1 := Lib.hid hc1
  clear hg1 hc1
  go_wp2
  go_ret
  exact ⟨_, rfl, HG1.out, HC1.out⟩
end Go.Proofs.YtbaekalebodhaaaDoor
