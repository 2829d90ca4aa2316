/- Sketches filled by the program. Conditions: as each theorem says. -/
import Derived.Test.YtonkblhajbphmaaRows
import Derived.Test.YtonkblhajbphmaaResB
namespace Go.Proofs.Ytonkblhajbphmaa
set_option linter.unusedSimpArgs false
set_option linter.unusedVariables false
open Go.ChangeShapes Go.WideShapes Go.ChangeAt Go.RowKit

/-- The arms being filled, the pointers to their tinctures, the result's place. -/
def FG (b a : AV) (w : World) (gk g4 : Nat) (vp : Value) (W : World) : Prop :=
  Blk W gk 35 #[Value.int .i64 b.f.d, Value.int .i64 b.f.l, Value.int .i64 b.f.a, Value.int .i64 b.f.b, Value.int .i64 b.o, Value.int .i64 b.l, Value.int .i64 b.t, Value.int .i64 b.on.c, Value.int .i64 b.on.k, Value.int .i64 b.on.a, Value.int .i64 b.on.t, Value.int .i64 b.ar.c, Value.int .i64 b.ar.k, Value.int .i64 b.ar.a, Value.int .i64 b.ar.t] ∧ Ptrs gk W w.heap.size vp a.places ∧ Blk W g4 35 #[Value.int .i64 AV.none.f.d, Value.int .i64 AV.none.f.l, Value.int .i64 AV.none.f.a, Value.int .i64 AV.none.f.b, Value.int .i64 AV.none.o, Value.int .i64 AV.none.l, Value.int .i64 AV.none.t, Value.int .i64 AV.none.on.c, Value.int .i64 AV.none.on.k, Value.int .i64 AV.none.on.a, Value.int .i64 AV.none.on.t, Value.int .i64 AV.none.ar.c, Value.int .i64 AV.none.ar.k, Value.int .i64 AV.none.ar.a, Value.int .i64 AV.none.ar.t] ∧ Below w.heap.size w W
section
variable {b a : AV} {w W W' : World} {gk g4 : Nat} {vp : Value}
theorem FG.put (H : FG b a w gk g4 vp W) (hne : g4 ≠ gk) (hk : w.heap.size ≤ gk) {p : Nat} (hp : p = 6 ∨ p = 10 ∨ p = 14) (y : Int) : FG (b.put p y) a w gk g4 vp (W.setCell ⟨gk, p, none⟩ (.int .i64 y)) := by
  have hg := setCell_grown W gk p (.int .i64 y)
  refine ⟨?_, kept_blk H.2.1 H.1 (by decide) hg, H.2.2.1.past hg hne, bgrown H.2.2.2 hg hk⟩
  have := H.1.set_ p (.int .i64 y)
  rwa [put_cellsA b p y hp] at this
end
theorem armsAt_blkA {a : AV} {g : Nat} {t : TypeId} {w : World} (h : Blk w g t #[Value.int .i64 a.f.d, Value.int .i64 a.f.l, Value.int .i64 a.f.a, Value.int .i64 a.f.b, Value.int .i64 a.o, Value.int .i64 a.l, Value.int .i64 a.t, Value.int .i64 a.on.c, Value.int .i64 a.on.k, Value.int .i64 a.on.a, Value.int .i64 a.on.t, Value.int .i64 a.ar.c, Value.int .i64 a.ar.k, Value.int .i64 a.ar.a, Value.int .i64 a.ar.t]) : ArmsAt a g w := ⟨h.lt, fun i hi => h.cell i⟩
set_option maxHeartbeats 2000000 in
theorem impl_filled (a : AV) (v : Value) (A : Option Addr) (n c : Nat) (ys : List Int) (hn : n = ys.length) (hm : n ≤ maxLen) (hp : a.places.length ≤ ys.length) (w : World) (hr : Reads w A ys) :
    Calls Try.prog 30 #[.agg #[Value.int .i64 a.f.d, Value.int .i64 a.f.l, Value.int .i64 a.f.a, Value.int .i64 a.f.b, Value.int .i64 a.o, Value.int .i64 a.l, Value.int .i64 a.t, Value.int .i64 a.on.c, Value.int .i64 a.on.k, Value.int .i64 a.on.a, Value.int .i64 a.on.t, Value.int .i64 a.ar.c, Value.int .i64 a.ar.k, Value.int .i64 a.ar.a, Value.int .i64 a.ar.t, v], .slice A n c] w fun e w' => e = .returned (.agg #[.int .i64 (a.fill ys).f.d, .int .i64 (a.fill ys).f.l, .int .i64 (a.fill ys).f.a, .int .i64 (a.fill ys).f.b, .int .i64 (a.fill ys).o, .int .i64 (a.fill ys).l, .int .i64 (a.fill ys).t, .int .i64 (a.fill ys).on.c, .int .i64 (a.fill ys).on.k, .int .i64 (a.fill ys).on.a, .int .i64 (a.fill ys).on.t, .int .i64 (a.fill ys).ar.c, .int .i64 (a.fill ys).ar.k, .int .i64 (a.fill ys).ar.a, .int .i64 (a.fill ys).ar.t]) ∧ Below w.heap.size w w' := by
  unfold maxLen at hm
  have HR := Lib.hid hr
  have HN := Lib.hid hn
  have HP := Lib.hid hp
  have HP3 := Lib.hid (places_len a)
  clear hr hn hp
  go_enter Try.func30, Try.ntmps30
  go_upto_region 1 with fail
  obtain ⟨B1, BR⟩ := blk_two w 40 35 #[Value.int .i64 a.f.d, Value.int .i64 a.f.l, Value.int .i64 a.f.a, Value.int .i64 a.f.b, Value.int .i64 a.o, Value.int .i64 a.l, Value.int .i64 a.t, Value.int .i64 a.on.c, Value.int .i64 a.on.k, Value.int .i64 a.on.a, Value.int .i64 a.on.t, Value.int .i64 a.ar.c, Value.int .i64 a.ar.k, Value.int .i64 a.ar.a, Value.int .i64 a.ar.t, v] #[Value.int .i64 AV.none.f.d, Value.int .i64 AV.none.f.l, Value.int .i64 AV.none.f.a, Value.int .i64 AV.none.f.b, Value.int .i64 AV.none.o, Value.int .i64 AV.none.l, Value.int .i64 AV.none.t, Value.int .i64 AV.none.on.c, Value.int .i64 AV.none.on.k, Value.int .i64 AV.none.on.a, Value.int .i64 AV.none.on.t, Value.int .i64 AV.none.ar.c, Value.int .i64 AV.none.ar.k, Value.int .i64 AV.none.ar.a, Value.int .i64 AV.none.ar.t]
  have hW : Below w.heap.size w ((w.alloc (.cells #[Value.int .i64 a.f.d, Value.int .i64 a.f.l, Value.int .i64 a.f.a, Value.int .i64 a.f.b, Value.int .i64 a.o, Value.int .i64 a.l, Value.int .i64 a.t, Value.int .i64 a.on.c, Value.int .i64 a.on.k, Value.int .i64 a.on.a, Value.int .i64 a.on.t, Value.int .i64 a.ar.c, Value.int .i64 a.ar.k, Value.int .i64 a.ar.a, Value.int .i64 a.ar.t, v] 40)).alloc (.cells #[Value.int .i64 AV.none.f.d, Value.int .i64 AV.none.f.l, Value.int .i64 AV.none.f.a, Value.int .i64 AV.none.f.b, Value.int .i64 AV.none.o, Value.int .i64 AV.none.l, Value.int .i64 AV.none.t, Value.int .i64 AV.none.on.c, Value.int .i64 AV.none.on.k, Value.int .i64 AV.none.on.a, Value.int .i64 AV.none.on.t, Value.int .i64 AV.none.ar.c, Value.int .i64 AV.none.ar.k, Value.int .i64 AV.none.ar.a, Value.int .i64 AV.none.ar.t] 35)) := (by repeat (first | (with_reducible exact Below.refl _ _) | (with_reducible assumption) | (with_reducible refine balloc ?_ _) | (with_reducible refine bdrew ?_) | (with_reducible refine bdrewN ?_ _) | (with_reducible refine bset ?_ (by first | omega | (simp; done) | (simp; omega)) _) | (with_reducible refine bstep ?_ (by assumption))))
  show Code.wp _ _ _ _ ((w.alloc (.cells #[Value.int .i64 a.f.d, Value.int .i64 a.f.l, Value.int .i64 a.f.a, Value.int .i64 a.f.b, Value.int .i64 a.o, Value.int .i64 a.l, Value.int .i64 a.t, Value.int .i64 a.on.c, Value.int .i64 a.on.k, Value.int .i64 a.on.a, Value.int .i64 a.on.t, Value.int .i64 a.ar.c, Value.int .i64 a.ar.k, Value.int .i64 a.ar.a, Value.int .i64 a.ar.t, v] 40)).alloc (.cells #[Value.int .i64 AV.none.f.d, Value.int .i64 AV.none.f.l, Value.int .i64 AV.none.f.a, Value.int .i64 AV.none.f.b, Value.int .i64 AV.none.o, Value.int .i64 AV.none.l, Value.int .i64 AV.none.t, Value.int .i64 AV.none.on.c, Value.int .i64 AV.none.on.k, Value.int .i64 AV.none.on.a, Value.int .i64 AV.none.on.t, Value.int .i64 AV.none.ar.c, Value.int .i64 AV.none.ar.k, Value.int .i64 AV.none.ar.a, Value.int .i64 AV.none.ar.t] 35))
  generalize ((w.alloc (.cells #[Value.int .i64 a.f.d, Value.int .i64 a.f.l, Value.int .i64 a.f.a, Value.int .i64 a.f.b, Value.int .i64 a.o, Value.int .i64 a.l, Value.int .i64 a.t, Value.int .i64 a.on.c, Value.int .i64 a.on.k, Value.int .i64 a.on.a, Value.int .i64 a.on.t, Value.int .i64 a.ar.c, Value.int .i64 a.ar.k, Value.int .i64 a.ar.a, Value.int .i64 a.ar.t, v] 40)).alloc (.cells #[Value.int .i64 AV.none.f.d, Value.int .i64 AV.none.f.l, Value.int .i64 AV.none.f.a, Value.int .i64 AV.none.f.b, Value.int .i64 AV.none.o, Value.int .i64 AV.none.l, Value.int .i64 AV.none.t, Value.int .i64 AV.none.on.c, Value.int .i64 AV.none.on.k, Value.int .i64 AV.none.on.a, Value.int .i64 AV.none.on.t, Value.int .i64 AV.none.ar.c, Value.int .i64 AV.none.ar.k, Value.int .i64 AV.none.ar.a, Value.int .i64 AV.none.ar.t] 35)) = W at *
  have C1 : RangeX W ⟨w.heap.size, 0, none⟩ [Value.int .i64 a.f.d, Value.int .i64 a.f.l, Value.int .i64 a.f.a, Value.int .i64 a.f.b, Value.int .i64 a.o, Value.int .i64 a.l, Value.int .i64 a.t, Value.int .i64 a.on.c, Value.int .i64 a.on.k, Value.int .i64 a.on.a, Value.int .i64 a.on.t, Value.int .i64 a.ar.c, Value.int .i64 a.ar.k, Value.int .i64 a.ar.a, Value.int .i64 a.ar.t] := Blk.head (R := [v]) B1
  go_upto_region 2 with (first | ((with_reducible refine wp_ldX ?_ row_impl C1 ?_); (focus (refine ⟨rfl, ⟨_, rfl, ?_⟩⟩; simp [go_sem]; done))) | ((with_reducible refine' wp_stB row_impl (Blk.new _ _ _) _ _); rotate_left; (focus (refine ⟨rfl, ⟨_, _, rfl, ?_, rfl⟩, rfl, rfl, ?_⟩; (focus (simp [go_sem]; done)); (focus (simp [Value.oneCell']; done)))); intro w3 hg3 BK))
  have z2 := BR.lt
  have z1 := hW.size
  replace BR := (BR.alloc _).past hg3 (by omega)
  replace hW := bgrown (balloc hW _) hg3 z1
  have hne : w.heap.size + 1 ≠ W.heap.size := by omega
  clear hg3 C1 B1 z2
  generalize W.heap.size = gk at *
  go_wp2_with (go_at_call 44; refine (impl_slotTinctures a gk _ (armsAt_blkA BK)).mono ?_; rintro e w4 ⟨vp, rfl, hq, hb4⟩; obtain ⟨P, cp, rfl, hpx⟩ := hq.shape; replace BR := BR.below hb4; replace BK := BK.below hb4; have hp2 := Recs.base (B' := w.heap.size) hq hW.size; replace hW := bstep hW hb4; clear hb4 hq)
  have HX := Lib.hid hpx
  have H0 : Hid (FG (a.putK ys 0) a w gk (w.heap.size + 1) (.slice P a.places.length cp) w4) := ⟨BK, hp2, BR, hW⟩
  clear hpx hp2 BK BR hW
  go_loopw [12] (fun i wr => ∃ (k : Nat), k ≤ a.places.length ∧ i = .int .i64 k ∧ Hid (FG (a.putK ys k) a w gk (w.heap.size + 1) (.slice P a.places.length cp) wr)) (fun i _ => a.places.length - (intOf i).toNat)
  case atStart => exact ⟨0, Nat.zero_le _, rfl, H0⟩
  case round =>
    obtain ⟨k, hk, rfl, hP⟩ := hrel
    clear H0
    by_cases hlt : k < a.places.length
    · have hk3 : k < 3 := by have := HP3.out; omega
      have hky : k < ys.length := by have := HP.out; omega
      have HPU := Lib.hid (putK_step a ys k hlt hky)
      have HPM := Lib.hid (places_mem hlt)
      have HLT := Lib.hid hlt
      obtain ⟨q, rfl, _⟩ := HX.out k hlt
      obtain ⟨x, rfl, _⟩ := HR.out k hky
      have d0 := hP.out.2.1.at_ hlt
      have d1 := reads_at (HR.out.below hP.out.2.2.2) hky
      have hkn : k < n := by rw [HN.out]; exact hky
      have f0 := hP.out.1.free (a.places.getD k 0)
      have c0 : ∃ u, wr.cell? ⟨gk, a.places.getD k 0, none⟩ = some u := by
        rw [hP.out.1.cell, cellAt_is _ _ (places_lt HLT.out)]
        exact ⟨_, rfl⟩
      obtain ⟨u, c0⟩ := c0
      have HG := Lib.hid (hP.out.put hne z1 HPM.out (ys.getD k 0))
      clear hky
      generalize ys.getD k 0 = y at *
      generalize a.places.getD k 0 = p at *
      generalize hb : a.putK ys k = b at *
      clear hb
      go_wp2
      go_roundw
      case rel => exact ⟨k + 1, by have := HLT.out; omega, by go_num, by show FG _ _ _ _ _ _ _; rw [HPU.out]; exact HG.out⟩
      case measure => simp [intOf]; omega
    · obtain rfl : k = a.places.length := by omega
      have e1 : a.putK ys a.places.length = a.fill ys := putK_all a ys HP.out
      rw [e1] at hP
      have BR := hP.out.2.2.1
      have BK := hP.out.1
      have hW := hP.out.2.2.2
      clear hP e1
      go_wp2_with (first | ((with_reducible refine wp_ldB ?_ row_impl BK ?_); (focus (refine ⟨rfl, ⟨_, rfl, ?_⟩, rfl⟩; simp [go_sem]; done))) | ((with_reducible refine' wp_stB row_impl BR _ _); rotate_left; (focus (refine ⟨rfl, ⟨_, _, rfl, ?_, rfl⟩, rfl, rfl, ?_⟩; (focus (simp [go_sem]; done)); (focus (simp [Value.oneCell']; done)))); intro w9 hg9 hb9))
      refine ret_rowA rfl rfl hb9 rfl rfl ?_
      exact ⟨rfl, bgrown hW hg9 (by omega)⟩
end Go.Proofs.Ytonkblhajbphmaa
