/- Plain sketches: the program's walk. Conditions: as each theorem says. -/
import Derived.Test.YtonkblhajbphmaaRows
import Derived.Test.YtonkblhajbphmaaSkC
namespace Go.Proofs.Ytonkblhajbphmaa
set_option linter.unusedSimpArgs false
set_option linter.unusedVariables false
open Go.ChangeShapes Go.WideShapes Go.ChangeAt Go.RowKit

theorem Ptrs.at_ {g q n c : Nat} {w : World} {B : Nat} {ks : List Nat} {k : Nat} (h : Ptrs g w B (.slice (some ⟨q, 0, none⟩) n c) ks) (hk : k < ks.length) : w.cell? ⟨q, k, none⟩ = some (.pointer (some ⟨g, ks.getD k 0, none⟩)) := by
  obtain ⟨A, c', e, hx⟩ := h.shape
  injection e with e _ _
  subst e
  obtain ⟨q', e, _, _, hc⟩ := hx k hk
  injection e with e
  injection e with e
  subst e
  exact hc
theorem cellK_is (a : AV) (v : Value) (k : Nat) (h : k < 15) : (#[Value.int .i64 a.f.d, Value.int .i64 a.f.l, Value.int .i64 a.f.a, Value.int .i64 a.f.b, Value.int .i64 a.o, Value.int .i64 a.l, Value.int .i64 a.t, Value.int .i64 a.on.c, Value.int .i64 a.on.k, Value.int .i64 a.on.a, Value.int .i64 a.on.t, Value.int .i64 a.ar.c, Value.int .i64 a.ar.k, Value.int .i64 a.ar.a, Value.int .i64 a.ar.t, v] : Array Value)[k]? = some (.int .i64 (a.cellAt k)) := by
  match k, h with
  | 0, _ | 1, _ | 2, _ | 3, _ | 4, _ | 5, _ | 6, _ | 7, _ | 8, _ | 9, _ | 10, _ | 11, _ | 12, _ | 13, _ | 14, _ => rfl
/-- The sketch in the making: its arms b, the header h in its block, the slots v, the pointers vp to its tinctures. -/
def PG (b a : AV) (w : World) (gk g2 : Nat) (vp h v : Value) (ys : List SV) (W : World) : Prop :=
  Slots W w.heap.size v ys ∧ Ptrs gk W w.heap.size vp a.places ∧ Blk W gk 40 #[Value.int .i64 b.f.d, Value.int .i64 b.f.l, Value.int .i64 b.f.a, Value.int .i64 b.f.b, Value.int .i64 b.o, Value.int .i64 b.l, Value.int .i64 b.t, Value.int .i64 b.on.c, Value.int .i64 b.on.k, Value.int .i64 b.on.a, Value.int .i64 b.on.t, Value.int .i64 b.ar.c, Value.int .i64 b.ar.k, Value.int .i64 b.ar.a, Value.int .i64 b.ar.t, h] ∧ Blk W g2 40 #[Value.int .i64 AV.none.f.d, Value.int .i64 AV.none.f.l, Value.int .i64 AV.none.f.a, Value.int .i64 AV.none.f.b, Value.int .i64 AV.none.o, Value.int .i64 AV.none.l, Value.int .i64 AV.none.t, Value.int .i64 AV.none.on.c, Value.int .i64 AV.none.on.k, Value.int .i64 AV.none.on.a, Value.int .i64 AV.none.on.t, Value.int .i64 AV.none.ar.c, Value.int .i64 AV.none.ar.k, Value.int .i64 AV.none.ar.a, Value.int .i64 AV.none.ar.t, .slice none 0 0] ∧ Below w.heap.size w W
section
variable {b a : AV} {w W W' : World} {gk g2 : Nat} {vp h v v' : Value} {ys : List SV} {s : SV}
theorem PG.below (H : PG b a w gk g2 vp h v ys W) (hb : Below W.heap.size W W') : PG b a w gk g2 vp h v ys W' := ⟨H.1.below hb, H.2.1.below hb, H.2.2.1.below hb, H.2.2.2.1.below hb, bstep H.2.2.2.2 hb⟩
theorem PG.app (H : PG b a w gk g2 vp h v ys W) (hi : Recs 79 2 SV.row W' w.heap.size v' (ys ++ [s])) (hg : W.grownBy W' v.ownBlock) : PG b a w gk g2 vp h v' (ys ++ [s]) W' :=
  ⟨hi, World.ownsRow.kept H.2.1 hg (own_diff H.2.1 H.1 (by decide)), H.2.2.1.grown hg (own_blk_ne H.1 H.2.2.1 (by decide)), H.2.2.2.1.grown hg (own_blk_ne H.1 H.2.2.2.1 (by decide)), grown_below H.2.2.2.2 hg fun q hq => (H.1.lt q hq).1⟩
theorem PG.store (H : PG b a w gk g2 vp h v ys W) (hne : g2 ≠ gk) (hk : w.heap.size ≤ gk) : PG b a w gk g2 vp v v ys (W.setCell ⟨gk, 15, none⟩ v) := by
  have hg := setCell_grown W gk 15 v
  exact ⟨kept_blk H.1 H.2.2.1 (by decide) hg, kept_blk H.2.1 H.2.2.1 (by decide) hg, H.2.2.1.set_ 15 v, H.2.2.2.1.past hg hne, bgrown H.2.2.2.2 hg hk⟩
theorem PG.gold (H : PG b a w gk g2 vp h v ys W) (hne : g2 ≠ gk) (hk : w.heap.size ≤ gk) {p : Nat} (hp : p = 6 ∨ p = 10 ∨ p = 14) (y : Int) : PG (b.put p y) a w gk g2 vp h v ys (W.setCell ⟨gk, p, none⟩ (.int .i64 y)) := by
  have hg := setCell_grown W gk p (.int .i64 y)
  refine ⟨kept_blk H.1 H.2.2.1 (by decide) hg, kept_blk H.2.1 H.2.2.1 (by decide) hg, ?_, H.2.2.2.1.past hg hne, bgrown H.2.2.2.2 hg hk⟩
  have := H.2.2.1.set_ p (.int .i64 y)
  rwa [put_cells b p y h hp] at this
theorem PG.head (H : PG b a w gk g2 vp h v ys W) : W.cell? ⟨gk, 15, none⟩ = some h ∧ W.frozen? ⟨gk, 15, none⟩ = false ∧ gk < W.heap.size := ⟨H.2.2.1.cell 15, H.2.2.1.free 15, H.2.2.1.lt⟩
end
set_option maxRecDepth 100000 in
set_option maxHeartbeats 4000000 in
theorem impl_PlainSketch (a : AV) (w : World) : Calls Try.prog 20 #[.agg #[.int .i64 a.f.d, .int .i64 a.f.l, .int .i64 a.f.a, .int .i64 a.f.b, .int .i64 a.o, .int .i64 a.l, .int .i64 a.t, .int .i64 a.on.c, .int .i64 a.on.k, .int .i64 a.on.a, .int .i64 a.on.t, .int .i64 a.ar.c, .int .i64 a.ar.k, .int .i64 a.ar.a, .int .i64 a.ar.t]] w fun e w' => ∃ v, e = .returned (.tuple #[.agg #[Value.int .i64 (if a.ok then a.bare else AV.none).f.d, Value.int .i64 (if a.ok then a.bare else AV.none).f.l, Value.int .i64 (if a.ok then a.bare else AV.none).f.a, Value.int .i64 (if a.ok then a.bare else AV.none).f.b, Value.int .i64 (if a.ok then a.bare else AV.none).o, Value.int .i64 (if a.ok then a.bare else AV.none).l, Value.int .i64 (if a.ok then a.bare else AV.none).t, Value.int .i64 (if a.ok then a.bare else AV.none).on.c, Value.int .i64 (if a.ok then a.bare else AV.none).on.k, Value.int .i64 (if a.ok then a.bare else AV.none).on.a, Value.int .i64 (if a.ok then a.bare else AV.none).on.t, Value.int .i64 (if a.ok then a.bare else AV.none).ar.c, Value.int .i64 (if a.ok then a.bare else AV.none).ar.k, Value.int .i64 (if a.ok then a.bare else AV.none).ar.a, Value.int .i64 (if a.ok then a.bare else AV.none).ar.t, v], .bool a.ok]) ∧ Slots w' w.heap.size v (if a.ok then a.slots else []) ∧ Below w.heap.size w w' := by
  cases h : a.ok
  all_goals
    go_enter Try.func20, Try.ntmps20
    go_upto_region 1 with fail
    obtain ⟨B1, B2⟩ := blk_two w 35 40 #[Value.int .i64 a.f.d, Value.int .i64 a.f.l, Value.int .i64 a.f.a, Value.int .i64 a.f.b, Value.int .i64 a.o, Value.int .i64 a.l, Value.int .i64 a.t, Value.int .i64 a.on.c, Value.int .i64 a.on.k, Value.int .i64 a.on.a, Value.int .i64 a.on.t, Value.int .i64 a.ar.c, Value.int .i64 a.ar.k, Value.int .i64 a.ar.a, Value.int .i64 a.ar.t] #[Value.int .i64 AV.none.f.d, Value.int .i64 AV.none.f.l, Value.int .i64 AV.none.f.a, Value.int .i64 AV.none.f.b, Value.int .i64 AV.none.o, Value.int .i64 AV.none.l, Value.int .i64 AV.none.t, Value.int .i64 AV.none.on.c, Value.int .i64 AV.none.on.k, Value.int .i64 AV.none.on.a, Value.int .i64 AV.none.on.t, Value.int .i64 AV.none.ar.c, Value.int .i64 AV.none.ar.k, Value.int .i64 AV.none.ar.a, Value.int .i64 AV.none.ar.t, .slice none 0 0]
    have hW : Below w.heap.size w ((w.alloc (.cells #[Value.int .i64 a.f.d, Value.int .i64 a.f.l, Value.int .i64 a.f.a, Value.int .i64 a.f.b, Value.int .i64 a.o, Value.int .i64 a.l, Value.int .i64 a.t, Value.int .i64 a.on.c, Value.int .i64 a.on.k, Value.int .i64 a.on.a, Value.int .i64 a.on.t, Value.int .i64 a.ar.c, Value.int .i64 a.ar.k, Value.int .i64 a.ar.a, Value.int .i64 a.ar.t] 35)).alloc (.cells #[Value.int .i64 AV.none.f.d, Value.int .i64 AV.none.f.l, Value.int .i64 AV.none.f.a, Value.int .i64 AV.none.f.b, Value.int .i64 AV.none.o, Value.int .i64 AV.none.l, Value.int .i64 AV.none.t, Value.int .i64 AV.none.on.c, Value.int .i64 AV.none.on.k, Value.int .i64 AV.none.on.a, Value.int .i64 AV.none.on.t, Value.int .i64 AV.none.ar.c, Value.int .i64 AV.none.ar.k, Value.int .i64 AV.none.ar.a, Value.int .i64 AV.none.ar.t, .slice none 0 0] 40)) := (by repeat (first | (with_reducible exact Below.refl _ _) | (with_reducible assumption) | (with_reducible refine balloc ?_ _) | (with_reducible refine bdrew ?_) | (with_reducible refine bdrewN ?_ _) | (with_reducible refine bset ?_ (by first | omega | (simp; done) | (simp; omega)) _) | (with_reducible refine bstep ?_ (by assumption))))
    show Code.wp _ _ _ _ ((w.alloc (.cells #[Value.int .i64 a.f.d, Value.int .i64 a.f.l, Value.int .i64 a.f.a, Value.int .i64 a.f.b, Value.int .i64 a.o, Value.int .i64 a.l, Value.int .i64 a.t, Value.int .i64 a.on.c, Value.int .i64 a.on.k, Value.int .i64 a.on.a, Value.int .i64 a.on.t, Value.int .i64 a.ar.c, Value.int .i64 a.ar.k, Value.int .i64 a.ar.a, Value.int .i64 a.ar.t] 35)).alloc (.cells #[Value.int .i64 AV.none.f.d, Value.int .i64 AV.none.f.l, Value.int .i64 AV.none.f.a, Value.int .i64 AV.none.f.b, Value.int .i64 AV.none.o, Value.int .i64 AV.none.l, Value.int .i64 AV.none.t, Value.int .i64 AV.none.on.c, Value.int .i64 AV.none.on.k, Value.int .i64 AV.none.on.a, Value.int .i64 AV.none.on.t, Value.int .i64 AV.none.ar.c, Value.int .i64 AV.none.ar.k, Value.int .i64 AV.none.ar.a, Value.int .i64 AV.none.ar.t, .slice none 0 0] 40))
    generalize ((w.alloc (.cells #[Value.int .i64 a.f.d, Value.int .i64 a.f.l, Value.int .i64 a.f.a, Value.int .i64 a.f.b, Value.int .i64 a.o, Value.int .i64 a.l, Value.int .i64 a.t, Value.int .i64 a.on.c, Value.int .i64 a.on.k, Value.int .i64 a.on.a, Value.int .i64 a.on.t, Value.int .i64 a.ar.c, Value.int .i64 a.ar.k, Value.int .i64 a.ar.a, Value.int .i64 a.ar.t] 35)).alloc (.cells #[Value.int .i64 AV.none.f.d, Value.int .i64 AV.none.f.l, Value.int .i64 AV.none.f.a, Value.int .i64 AV.none.f.b, Value.int .i64 AV.none.o, Value.int .i64 AV.none.l, Value.int .i64 AV.none.t, Value.int .i64 AV.none.on.c, Value.int .i64 AV.none.on.k, Value.int .i64 AV.none.on.a, Value.int .i64 AV.none.on.t, Value.int .i64 AV.none.ar.c, Value.int .i64 AV.none.ar.k, Value.int .i64 AV.none.ar.a, Value.int .i64 AV.none.ar.t, .slice none 0 0] 40)) = W at *
    have z2 := B2.lt
  · go_wp2_with (first | ((with_reducible refine wp_ldA' ?_ B1 ?_); (focus (refine ⟨rfl, ⟨_, rfl, ?_⟩, rfl⟩; simp [go_sem]; done))) | (go_at_call 38; refine (impl_IsValidArms a _).mono ?_; rintro e w1 ⟨rfl, hb1⟩; replace B1 := B1.below hb1; replace B2 := B2.below hb1; replace hW := bstep hW hb1; clear hb1) | ((with_reducible refine' wp_stB row_sk B2 _ _); rotate_left; (focus (refine ⟨rfl, ⟨_, _, rfl, ?_, rfl⟩, rfl, rfl, ?_⟩; (focus (simp [go_sem]; done)); (focus (simp [Value.oneCell']; done)))); intro w3 hg3 hb3))
    refine ret_rowG2 row_sk rfl rfl hb3 rfl rfl rfl ?_
    exact ⟨_, rfl, Recs.nil _ _, bgrown hW hg3 (by omega)⟩
  have HP3 := Lib.hid (places_len a)
  go_upto_region 4 with (first
    | ((with_reducible refine wp_ldA' ?_ B1 ?_); (focus (refine ⟨rfl, ⟨_, rfl, ?_⟩, rfl⟩; simp [go_sem]; done)))
    | (go_at_call 38; refine (impl_IsValidArms a _).mono ?_; rintro e w1 ⟨rfl, hb1⟩; replace B1 := B1.below hb1; replace B2 := B2.below hb1; replace hW := bstep hW hb1; clear hb1)
    | ((with_reducible refine' wp_stB row_sk (Blk.new _ _ _) _ _); rotate_left; (focus (refine ⟨rfl, ⟨_, _, rfl, ?_, rfl⟩, rfl, rfl, ?_⟩; (focus (simp [go_sem]; done)); (focus (simp [Value.oneCell']; done)))); intro w3 hg3 BK))
  have z1 := hW.size
  have z3 := B2.lt
  replace B2 := (B2.alloc _).past hg3 (by omega)
  replace hW := bgrown (balloc hW _) hg3 z1
  clear hg3 B1
  have hne : w.heap.size + 1 ≠ w1.heap.size := by omega
  generalize hgk0 : w1.heap.size = gk at *
  go_wp2_with (go_at_call 44; refine (impl_slotTinctures a gk _ (armsAt_blk BK)).mono ?_; rintro e w4 ⟨vp, rfl, hp, hb4⟩; obtain ⟨P, cp, rfl, hpx⟩ := hp.shape; replace B2 := B2.below hb4; replace BK := BK.below hb4; have hp2 := Recs.base (B' := w.heap.size) hp hW.size; replace hW := bstep hW hb4; clear hb4 hp)
  have HX := Lib.hid hpx
  have H0 : Hid (PG (a.putK ones3 0) a w gk (w.heap.size + 1) (.slice P a.places.length cp) (.slice none 0 0) (.slice none 0 0) (a.slots.take 0) w4) := ⟨Recs.nil _ _, hp2, BK, B2, hW⟩
  clear hpx hp2 BK B2 hW z2 z3 hgk0
  go_loopw [16] (fun i wr => ∃ (k : Nat) (v : Value), k ≤ a.places.length ∧ i = .int .i64 k ∧ Hid (PG (a.putK ones3 k) a w gk (w.heap.size + 1) (.slice P a.places.length cp) v v (a.slots.take k) wr)) (fun i _ => a.places.length - (intOf i).toNat)
  case atStart => exact ⟨0, _, Nat.zero_le _, rfl, H0⟩
  case round =>
    obtain ⟨k, v, hk, rfl, hP⟩ := hrel
    clear H0
    by_cases hlt : k < a.places.length
    · have HST := Lib.hid (slots_takeP a k hlt)
      have hk3 : k < 3 := by have := HP3.out; omega
      have HSZ : Hid ((a.slots.take k).length ≤ 3) := by show _ ≤ _; have := slots_len a; rw [List.length_take]; omega
      have HPU := Lib.hid (putK_step a ones3 k hlt (by simpa [ones3] using hk3))
      have hy : ones3.getD k 0 = 1 := by rcases below3 hk3 with rfl | rfl | rfl <;> rfl
      rw [hy] at HPU
      have HAT := Lib.hid (putK_at a ones3 k hlt (by simp [ones3]; omega))
      have HPM := Lib.hid (places_mem hlt)
      have HLT := Lib.hid hlt
      obtain ⟨q, rfl, _⟩ := HX.out k hlt
      have d0 := hP.out.2.1.at_ hlt
      clear hy
      have HC0 : Hid (∀ (h v' : Value) ys W', PG (a.putK ones3 k) a w gk (w.heap.size + 1) (.slice (some ⟨q, 0, none⟩) a.places.length cp) h v' ys W' → W'.cell? ⟨gk, a.places.getD k 0, none⟩ = some (.int .i64 (a.cellAt (a.places.getD k 0)))) := fun h v' ys W' H => by
        rw [H.2.2.1.cell, cellK_is _ _ _ (places_lt HLT.out), HAT.out]
      generalize a.slots.take k = ys at *
      generalize a.cellAt (a.places.getD k 0) = y at *
      generalize a.places.getD k 0 = p at *
      generalize a.putK ones3 k = b at *
      go_upto_region 7 with fail
      clear d0
      have hd : Below wr.heap.size wr { wr with drawn := wr.drawn + 1 } := ⟨rfl, rfl, rfl, Nat.le_refl _, fun _ _ => rfl⟩
      refine wp_region_app [true, false, true, true, true, true, false, false, true, false] 1 6 7 9 21 26 27 _ _ _ _ v (slotN y).row.toArray 79 (fun W' => W'.cell? ⟨gk, p, none⟩ = some (.int .i64 y))
        (fun W' => PG b a w gk (w.heap.size + 1) (.slice (some ⟨q, 0, none⟩) a.places.length cp) v v ys W') (fun v' W' => PG b a w gk (w.heap.size + 1) (.slice (some ⟨q, 0, none⟩) a.places.length cp) v v' (ys ++ [slotN y]) W') (fun v' W' => PG b a w gk (w.heap.size + 1) (.slice (some ⟨q, 0, none⟩) a.places.length cp) v' v' (ys ++ [slotN y]) W')
        (by kernel_rfl) (by kernel_rfl) (by decide) rfl rfl rfl rfl rfl rfl rfl rfl (by kernel_rfl) (by kernel_rfl) (by kernel_rfl) (hP.out.below hd)
        (fun w1 w2 h hb => (hb.cell (World.block_lt_of_cell? _ _ h)).trans h) (fun w1 w2 h hb => h.below hb) (fun v' w1 w2 h hb => h.below hb) (fun v' w1 w2 h hb => h.below hb) (fun w1 h => HC0.out _ _ _ _ h) (fun v' w1 h => HC0.out _ _ _ _ h) (fun v' w1 h => HC0.out _ _ _ _ h) ?_
      refine wpMildL_take rfl ?_
      apply Exists.intro
      refine ⟨fun w' hw' => ?_, ?_⟩
      · go_simp
        with_reducible rfl
      simp only [Act.put, List.setIfInBounds_toArray, List.set_cons_zero, List.set_cons_succ]
      refine wpMildL_late ?_
      refine wpMildL_take rfl ?_
      apply Exists.intro
      refine ⟨fun w' hw' => ?_, ?_⟩
      · go_simp
        with_reducible rfl
      simp only [Act.put, List.setIfInBounds_toArray, List.set_cons_zero, List.set_cons_succ]
      refine wpMildL_take rfl ?_
      apply Exists.intro
      refine ⟨fun w' hw' => ?_, ?_⟩
      · go_simp
        with_reducible rfl
      simp only [Act.put, List.setIfInBounds_toArray, List.set_cons_zero, List.set_cons_succ]
      refine wpMildL_take rfl ?_
      apply Exists.intro
      refine ⟨fun w' hw' => ?_, ?_⟩
      · (have hc : w'.cell? ⟨gk, p, none⟩ = some (.int .i64 y) := hw'; go_simp; with_reducible rfl)
      simp only [Act.put, List.setIfInBounds_toArray, List.set_cons_zero, List.set_cons_succ]
      refine wpMildL_take rfl ?_
      apply Exists.intro
      refine ⟨fun w' hw' => ?_, ?_⟩
      · go_simp
        with_reducible rfl
      simp only [Act.put, List.setIfInBounds_toArray, List.set_cons_zero, List.set_cons_succ]
      refine wpMildL_late ?_
      refine wpMildL_late ?_
      refine wpMildL_take rfl ?_
      apply Exists.intro
      refine ⟨fun w' hw' => ?_, ?_⟩
      · go_simp
        with_reducible rfl
      simp only [Act.put, List.setIfInBounds_toArray, List.set_cons_zero, List.set_cons_succ]
      refine wpMildL_late ?_
      refine wpMildL_nil ?_
      refine ⟨fun g v' w' h => ?_, fun g v' w' => ?_, fun g v' w' h hb => ?_, fun g v' w' h => ?_, fun g v' w' h => ?_⟩
      all_goals simp only [Act.put, List.setIfInBounds_toArray, List.set_cons_zero, List.set_cons_succ]
      · obtain ⟨c1, f1, y1⟩ := h.head
        go_simp
      · go_simp
        rfl
      · exact late_appendR (f := SV.row) (n := 2) (z := .agg #[Value.int .i64 SV.z.m, Value.int .i64 SV.z.n]) (bts := 16) SV.row_len slot_one (by decide) Try.underlying38 slot_info rfl (by decide) _ _ rfl v ys (slotN y) _ g rfl rfl hb h.1 h.2.2.2.2.size (by have := HSZ.out; omega) (fun v2 w2 hi hg => h.app hi hg)
      · obtain ⟨A', c', rfl, _⟩ := h.1.shape
        obtain ⟨c1, f1, y1⟩ := h.head
        have hst := h.store hne z1
        generalize hr : (execOp _ _).run Try.prog w' = r
        refine late_skip (w' := w'.setCell ⟨gk, 15, none⟩ (.slice A' (ys ++ [slotN y]).length c')) (by rw [← hr]; go_simp) ⟨rfl, hst⟩
      · have HG := Lib.hid (h.gold hne z1 HPM.out 1)
        have c1 := HC0.out
        have c2 := h.2.2.1.free p
        have c3 : w'.cell? ⟨gk, p, none⟩ = some (.int .i64 y) := c1 _ _ _ _ h
        clear c1 h hd HC0
        go_wp2
        go_roundw
        case rel => exact ⟨k + 1, v', by have := HLT.out; omega, by go_num, by show PG _ _ _ _ _ _ _ _ _ _; rw [HST.out, HPU.out]; exact HG.out⟩
        case measure => simp [intOf]; omega
    · obtain rfl : k = a.places.length := by omega
      have e1 : a.putK ones3 a.places.length = a.bare := putK_all a ones3 (by simpa [ones3] using HP3.out)
      have e2 : a.slots.take a.places.length = a.slots := List.take_of_length_le (by simp [AV.slots])
      rw [e1, e2] at hP
      obtain ⟨Av, cv, rfl, _⟩ := hP.out.1.shape
      have B2 := hP.out.2.2.2.1
      have BK := hP.out.2.2.1
      have hS := hP.out.1
      have hW := hP.out.2.2.2.2
      clear hP e1 e2
      go_wp2_with (first | ((with_reducible refine wp_ldB ?_ row_sk BK ?_); (focus (refine ⟨rfl, ⟨_, rfl, ?_⟩, rfl⟩; simp [go_sem]; done))) | ((with_reducible refine' wp_stB row_sk B2 _ _); rotate_left; (focus (refine ⟨rfl, ⟨_, _, rfl, ?_, rfl⟩, rfl, rfl, ?_⟩; (focus (simp [go_sem]; done)); (focus (simp [Value.oneCell']; done)))); intro w9 hg9 hb9))
      refine ret_rowG2 row_sk rfl rfl hb9 rfl rfl rfl ?_
      exact ⟨_, rfl, kept_blk hS B2 (by decide) hg9, bgrown hW hg9 (by omega)⟩
end Go.Proofs.Ytonkblhajbphmaa
