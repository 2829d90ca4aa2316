/- Plain sketches: the reference. Conditions: as each theorem says. -/
import Derived.Test.YtonkblhajbphmaaRows
import Derived.Test.YtonkblhajbphmaaSkA
namespace Go.Proofs.Ytonkblhajbphmaa
set_option linter.unusedSimpArgs false
set_option linter.unusedVariables false
open Go.ChangeShapes Go.WideShapes Go.ChangeAt Go.RowKit

theorem late_skip {P : Program} {R : Value → World → Prop} {r : Result Next} {w' : World} (h : r = .ok .skip w') (hR : R undef w') : LateUpon P R r := ⟨by rw [h]; exact hR⟩
theorem PL.elem {a : AV} {w W : World} {gk g2 n c : Nat} {x : Addr} {h v : Value} {ys : List SV} {k : Nat} (H : PL a w gk g2 (.slice (some x) n c) h v ys W) (hk : k < a.tL.length) : W.cell? (x.add k) = some (.int .i64 (a.tL.getD k 0)) := by
  obtain ⟨Bl, hl⟩ := H.2.1
  obtain ⟨A, c', e, hr⟩ := hl.reads
  injection e with e _ _
  subst e
  exact reads_at hr hk
theorem PL.head {a : AV} {w W : World} {gk g2 : Nat} {vl h v : Value} {ys : List SV} (H : PL a w gk g2 vl h v ys W) : W.cell? ⟨gk, 15, none⟩ = some h ∧ W.frozen? ⟨gk, 15, none⟩ = false ∧ gk < W.heap.size := ⟨H.2.2.1.cell 15, H.2.2.1.free 15, H.2.2.1.lt⟩
theorem kept_blk {w w' : World} {B size n g : Nat} {e t : TypeId} {v : Value} {xs : List Value} {cs : Array Value} (h : w.ownsRow B e size v n xs) (hb : Blk w g t cs) (hne : e ≠ t) (hg : w.grownBy w' (some g)) : w'.ownsRow B e size v n xs := by
  refine World.ownsRow.kept h hg ?_
  have := own_blk_ne h hb hne
  cases hv : v.ownBlock with
  | none => exact .inl rfl
  | some k => exact .inr fun e => this (by rw [hv, e])
set_option maxRecDepth 100000 in
set_option maxHeartbeats 4000000 in
theorem spec_l7Plain (a : AV) (h0 : 0 ≤ a.o) (w : World) : Calls Try.prog 41 #[.agg #[.int .i64 a.f.d, .int .i64 a.f.l, .int .i64 a.f.a, .int .i64 a.f.b, .int .i64 a.o, .int .i64 a.l, .int .i64 a.t, .int .i64 a.on.c, .int .i64 a.on.k, .int .i64 a.on.a, .int .i64 a.on.t, .int .i64 a.ar.c, .int .i64 a.ar.k, .int .i64 a.ar.a, .int .i64 a.ar.t]] w fun e w' => ∃ v, e = .returned (.agg #[Value.int .i64 a.bare.f.d, Value.int .i64 a.bare.f.l, Value.int .i64 a.bare.f.a, Value.int .i64 a.bare.f.b, Value.int .i64 a.bare.o, Value.int .i64 a.bare.l, Value.int .i64 a.bare.t, Value.int .i64 a.bare.on.c, Value.int .i64 a.bare.on.k, Value.int .i64 a.bare.on.a, Value.int .i64 a.bare.on.t, Value.int .i64 a.bare.ar.c, Value.int .i64 a.bare.ar.k, Value.int .i64 a.bare.ar.a, Value.int .i64 a.bare.ar.t, v]) ∧ Slots w' w.heap.size v a.slots ∧ Below w.heap.size w w' := by
  have H0 := Lib.hid h0
  clear h0
  go_enter Try.func41, Try.ntmps41
  go_upto_region 1 with fail
  obtain ⟨B1, B2⟩ := blk_two w 35 40 #[Value.int .i64 a.f.d, Value.int .i64 a.f.l, Value.int .i64 a.f.a, Value.int .i64 a.f.b, Value.int .i64 a.o, Value.int .i64 a.l, Value.int .i64 a.t, Value.int .i64 a.on.c, Value.int .i64 a.on.k, Value.int .i64 a.on.a, Value.int .i64 a.on.t, Value.int .i64 a.ar.c, Value.int .i64 a.ar.k, Value.int .i64 a.ar.a, Value.int .i64 a.ar.t] #[Value.int .i64 AV.none.f.d, Value.int .i64 AV.none.f.l, Value.int .i64 AV.none.f.a, Value.int .i64 AV.none.f.b, Value.int .i64 AV.none.o, Value.int .i64 AV.none.l, Value.int .i64 AV.none.t, Value.int .i64 AV.none.on.c, Value.int .i64 AV.none.on.k, Value.int .i64 AV.none.on.a, Value.int .i64 AV.none.on.t, Value.int .i64 AV.none.ar.c, Value.int .i64 AV.none.ar.k, Value.int .i64 AV.none.ar.a, Value.int .i64 AV.none.ar.t, .slice none 0 0]
  have hW : Below w.heap.size w ((w.alloc (.cells #[Value.int .i64 a.f.d, Value.int .i64 a.f.l, Value.int .i64 a.f.a, Value.int .i64 a.f.b, Value.int .i64 a.o, Value.int .i64 a.l, Value.int .i64 a.t, Value.int .i64 a.on.c, Value.int .i64 a.on.k, Value.int .i64 a.on.a, Value.int .i64 a.on.t, Value.int .i64 a.ar.c, Value.int .i64 a.ar.k, Value.int .i64 a.ar.a, Value.int .i64 a.ar.t] 35)).alloc (.cells #[Value.int .i64 AV.none.f.d, Value.int .i64 AV.none.f.l, Value.int .i64 AV.none.f.a, Value.int .i64 AV.none.f.b, Value.int .i64 AV.none.o, Value.int .i64 AV.none.l, Value.int .i64 AV.none.t, Value.int .i64 AV.none.on.c, Value.int .i64 AV.none.on.k, Value.int .i64 AV.none.on.a, Value.int .i64 AV.none.on.t, Value.int .i64 AV.none.ar.c, Value.int .i64 AV.none.ar.k, Value.int .i64 AV.none.ar.a, Value.int .i64 AV.none.ar.t, .slice none 0 0] 40)) := (by repeat (first | (with_reducible exact Below.refl _ _) | (with_reducible assumption) | (with_reducible refine balloc ?_ _) | (with_reducible refine bdrew ?_) | (with_reducible refine bdrewN ?_ _) | (with_reducible refine bset ?_ (by first | omega | (simp; done) | (simp; omega)) _) | (with_reducible refine bstep ?_ (by assumption))))
  show Code.wp _ _ _ _ ((w.alloc (.cells #[Value.int .i64 a.f.d, Value.int .i64 a.f.l, Value.int .i64 a.f.a, Value.int .i64 a.f.b, Value.int .i64 a.o, Value.int .i64 a.l, Value.int .i64 a.t, Value.int .i64 a.on.c, Value.int .i64 a.on.k, Value.int .i64 a.on.a, Value.int .i64 a.on.t, Value.int .i64 a.ar.c, Value.int .i64 a.ar.k, Value.int .i64 a.ar.a, Value.int .i64 a.ar.t] 35)).alloc (.cells #[Value.int .i64 AV.none.f.d, Value.int .i64 AV.none.f.l, Value.int .i64 AV.none.f.a, Value.int .i64 AV.none.f.b, Value.int .i64 AV.none.o, Value.int .i64 AV.none.l, Value.int .i64 AV.none.t, Value.int .i64 AV.none.on.c, Value.int .i64 AV.none.on.k, Value.int .i64 AV.none.on.a, Value.int .i64 AV.none.on.t, Value.int .i64 AV.none.ar.c, Value.int .i64 AV.none.ar.k, Value.int .i64 AV.none.ar.a, Value.int .i64 AV.none.ar.t, .slice none 0 0] 40))
  generalize ((w.alloc (.cells #[Value.int .i64 a.f.d, Value.int .i64 a.f.l, Value.int .i64 a.f.a, Value.int .i64 a.f.b, Value.int .i64 a.o, Value.int .i64 a.l, Value.int .i64 a.t, Value.int .i64 a.on.c, Value.int .i64 a.on.k, Value.int .i64 a.on.a, Value.int .i64 a.on.t, Value.int .i64 a.ar.c, Value.int .i64 a.ar.k, Value.int .i64 a.ar.a, Value.int .i64 a.ar.t] 35)).alloc (.cells #[Value.int .i64 AV.none.f.d, Value.int .i64 AV.none.f.l, Value.int .i64 AV.none.f.a, Value.int .i64 AV.none.f.b, Value.int .i64 AV.none.o, Value.int .i64 AV.none.l, Value.int .i64 AV.none.t, Value.int .i64 AV.none.on.c, Value.int .i64 AV.none.on.k, Value.int .i64 AV.none.on.a, Value.int .i64 AV.none.on.t, Value.int .i64 AV.none.ar.c, Value.int .i64 AV.none.ar.k, Value.int .i64 AV.none.ar.a, Value.int .i64 AV.none.ar.t, .slice none 0 0] 40)) = W at *
  go_upto_region 2 with (first
    | ((with_reducible refine wp_ldA' ?_ B1 ?_); (focus (refine ⟨rfl, ⟨_, rfl, ?_⟩, rfl⟩; simp [go_sem]; done)))
    | (go_at_call 52; refine (spec_l7Bare a H0.out _).mono ?_; rintro e w1 ⟨rfl, hb1⟩; replace B1 := B1.below hb1; replace B2 := B2.below hb1; replace hW := bstep hW hb1; clear hb1)
    | ((with_reducible refine' wp_stB row_sk (Blk.new _ _ _) _ _); rotate_left; (focus (refine ⟨rfl, ⟨_, _, rfl, ?_, rfl⟩, rfl, rfl, ?_⟩; (focus (simp [go_sem]; done)); (focus (simp [Value.oneCell']; done)))); intro w3 hg3 BK))
  have z2 := B2.lt
  have e3 : (w1.alloc (.cells #[] 79)).heap.size = w1.heap.size + 1 := by simp
  rw [e3] at hg3 BK
  show Code.wp _ _ _ _ w3
  have S1 : Slots w3 w1.heap.size (.slice (some ⟨w1.heap.size, 0, none⟩) 0 0) [] := World.ownsRow.kept (World.ownsRow.alloc (Recs.lit (n := 2) (f := SV.row) (e := 79) w1) _) hg3 (.inr (by simp [Value.ownBlock]))
  replace B1 := ((B1.alloc _).alloc _).past hg3 (by omega)
  replace B2 := ((B2.alloc _).alloc _).past hg3 (by omega)
  have z1 := hW.size
  replace hW := bgrown (balloc (balloc hW _) _) hg3 (by omega)
  replace S1 := S1.base z1
  clear hg3 e3
  go_upto_region 3 with (first
    | ((with_reducible refine wp_ldA' ?_ B1 ?_); (focus (refine ⟨rfl, ⟨_, rfl, ?_⟩, rfl⟩; simp [go_sem]; done)))
    | (go_at_call 71; refine (spec_l5Tinctures a _).mono ?_; rintro e w4 ⟨vl, rfl, hl, hb4⟩; replace B1 := B1.below hb4; replace B2 := B2.below hb4; replace BK := BK.below hb4; replace S1 := S1.below hb4; replace hW := bstep hW hb4; clear hb4))
  have hll := hl.len
  obtain ⟨Al, cl, hvl, hlx⟩ := hl.shape
  subst hvl
  obtain ⟨c1, y1⟩ := B1.facts
  go_wp2_with (go_at_call 72; refine (spec_l3Tinctures _ _ _ _ _).mono ?_; rintro e w5 ⟨vf, rfl, hf, hb5⟩; obtain ⟨Af, cf, rfl, _⟩ := hf.shape; replace B2 := B2.below hb5; replace BK := BK.below hb5; replace S1 := S1.below hb5; replace hl := hl.below hb5; replace hW := bstep hW hb5; clear hb5 c1 y1 B1 hf)
  have HP : Hid (PL a w (w1.heap.size + 1) (w.heap.size + 1) (.slice Al a.tL.length cl) (.slice (some ⟨w1.heap.size, 0, none⟩) 0 0) (.slice (some ⟨w1.heap.size, 0, none⟩) 0 0) [] w5) := ⟨S1, ⟨_, hl⟩, BK, B2, hW⟩
  have hne : w.heap.size + 1 ≠ w1.heap.size + 1 := by omega
  have hgk : w.heap.size ≤ w1.heap.size + 1 := by omega
  have HTL := Lib.hid (ft_le_tL H0.out)
  have HFT := Lib.hid (ft_len a)
  clear S1 hl BK B2 hW z1 z2 hll
  rw [show ftL a.f.d a.f.a a.f.b = a.ft from rfl]
  generalize w1.heap.size + 1 = gk at *
  generalize Value.slice (some ⟨w1.heap.size, 0, none⟩) 0 0 = v0 at *
  go_loopw [5] (fun i wr => ∃ (j : Nat) (v : Value), a.ft.length + j ≤ a.tL.length ∧ i = .int .i64 ((a.ft.length + j : Nat) : Int) ∧ Hid (PL a w gk (w.heap.size + 1) (.slice Al a.tL.length cl) v v (a.slots.take j) wr)) (fun i _ => a.tL.length - (intOf i).toNat)
  case atStart => exact ⟨0, v0, by have := HTL.out.1; omega, rfl, HP⟩
  case round =>
    obtain ⟨j, v, hj, rfl, hP⟩ := hrel
    clear HP
    obtain ⟨c1, f1, y1⟩ := hP.out.head
    by_cases hlt : a.ft.length + j < a.tL.length
    · have HST := Lib.hid (slots_take H0.out j hlt)
      have HSZ : Hid ((a.slots.take j).length ≤ 3) := by show _ ≤ _; have := slots_len a; rw [List.length_take]; omega
      have HNEXT : Hid (a.ft.length + (j + 1) ≤ a.tL.length) := by show _ ≤ _; omega
      obtain ⟨gl, rfl, _⟩ := hlx _ hlt
      have HC0 : Hid (∀ (h v' : Value) ys W', PL a w gk (w.heap.size + 1) (.slice (some ⟨gl, 0, none⟩) a.tL.length cl) h v' ys W' → W'.cell? ⟨gl, a.ft.length + j, none⟩ = some (.int .i64 (a.tL.getD (a.ft.length + j) 0))) := fun h v' ys W' H => by
        have := H.elem hlt
        rwa [Addr.add_mid, Nat.zero_add] at this
      have HT0 := Lib.hid (HTL.out.2)
      generalize a.slots.take j = ys at *
      generalize a.tL.getD (a.ft.length + j) 0 = y at *
      generalize hq : a.ft.length + j = q at *
      have HQ := Lib.hid hq
      clear hq hlx
      clear c1 f1 y1
      have hq3 : q < 5 := by have := HT0.out; have := HFT.out; omega
      obtain ⟨c1, f1, y1⟩ := hP.out.head
      go_upto_region 6 with fail
      clear c1 f1 y1
      have hd : Below wr.heap.size wr { wr with drawn := wr.drawn + 1 } := ⟨rfl, rfl, rfl, Nat.le_refl _, fun _ _ => rfl⟩
      refine wp_region_app [true, false, true, true, true, true, true, false, false, true, false] 1 7 8 10 23 29 30 _ _ _ _ v (slotN y).row.toArray 79 (fun W' => W'.cell? ⟨gl, q, none⟩ = some (.int .i64 y))
        (fun W' => PL a w gk (w.heap.size + 1) (.slice (some ⟨gl, 0, none⟩) a.tL.length cl) v v ys W') (fun v' W' => PL a w gk (w.heap.size + 1) (.slice (some ⟨gl, 0, none⟩) a.tL.length cl) v v' (ys ++ [slotN y]) W') (fun v' W' => PL a w gk (w.heap.size + 1) (.slice (some ⟨gl, 0, none⟩) a.tL.length cl) v' v' (ys ++ [slotN y]) W')
        (by kernel_rfl) (by kernel_rfl) (by decide) rfl rfl rfl rfl rfl rfl rfl rfl (by kernel_rfl) (by kernel_rfl) (by kernel_rfl) (hP.out.below hd)
        (fun w1 w2 h hb => (hb.cell (World.block_lt_of_cell? _ _ h)).trans h) (fun w1 w2 h hb => h.below hb) (fun v' w1 w2 h hb => h.below hb) (fun v' w1 w2 h hb => h.below hb) (fun w1 h => HC0.out _ _ _ _ h) (fun v' w1 h => HC0.out _ _ _ _ h) (fun v' w1 h => HC0.out _ _ _ _ h) ?_
      refine wpMildL_take rfl ?_
      apply Exists.intro
      refine ⟨fun w' hw' => ?_, ?_⟩
      · go_simp
        with_reducible rfl
      simp only [Act.put, List.setIfInBounds_toArray, List.set_cons_zero, List.set_cons_succ]
      refine wpMildL_late ?_
      refine wpMildL_take rfl ?_
      apply Exists.intro
      refine ⟨fun w' hw' => ?_, ?_⟩
      · go_simp
        with_reducible rfl
      simp only [Act.put, List.setIfInBounds_toArray, List.set_cons_zero, List.set_cons_succ]
      refine wpMildL_take rfl ?_
      apply Exists.intro
      refine ⟨fun w' hw' => ?_, ?_⟩
      · go_simp
        with_reducible rfl
      simp only [Act.put, List.setIfInBounds_toArray, List.set_cons_zero, List.set_cons_succ]
      refine wpMildL_take rfl ?_
      apply Exists.intro
      refine ⟨fun w' hw' => ?_, ?_⟩
      · go_simp
        with_reducible rfl
      simp only [Act.put, List.setIfInBounds_toArray, List.set_cons_zero, List.set_cons_succ]
      refine wpMildL_take rfl ?_
      apply Exists.intro
      refine ⟨fun w' hw' => ?_, ?_⟩
      · (have hc : w'.cell? ⟨gl, q, none⟩ = some (.int .i64 y) := hw'; go_simp; with_reducible rfl)
      simp only [Act.put, List.setIfInBounds_toArray, List.set_cons_zero, List.set_cons_succ]
      refine wpMildL_take rfl ?_
      apply Exists.intro
      refine ⟨fun w' hw' => ?_, ?_⟩
      · go_simp
        with_reducible rfl
      simp only [Act.put, List.setIfInBounds_toArray, List.set_cons_zero, List.set_cons_succ]
      refine wpMildL_late ?_
      refine wpMildL_late ?_
      refine wpMildL_take rfl ?_
      apply Exists.intro
      refine ⟨fun w' hw' => ?_, ?_⟩
      · go_simp
        with_reducible rfl
      simp only [Act.put, List.setIfInBounds_toArray, List.set_cons_zero, List.set_cons_succ]
      refine wpMildL_late ?_
      refine wpMildL_nil ?_
      refine ⟨fun g v' w' h => ?_, fun g v' w' => ?_, fun g v' w' h hb => ?_, fun g v' w' h => ?_, fun g v' w' h => ?_⟩
      all_goals simp only [Act.put, List.setIfInBounds_toArray, List.set_cons_zero, List.set_cons_succ]
      · obtain ⟨c1, f1, y1⟩ := h.head
        go_simp
      · go_simp
        rfl
      · exact late_appendR (f := SV.row) (n := 2) (z := .agg #[Value.int .i64 SV.z.m, Value.int .i64 SV.z.n]) (bts := 16) SV.row_len slot_one (by decide) Try.underlying38 slot_info rfl (by decide) _ _ rfl v ys (slotN y) _ g rfl rfl hb h.1 h.2.2.2.2.size (by have := HSZ.out; omega) (fun v2 w2 hi hg => h.app hi hg)
      · obtain ⟨A', c', rfl, _⟩ := h.1.shape
        obtain ⟨c1, f1, y1⟩ := h.head
        have hst := h.store hne hgk
        generalize hr : (execOp _ _).run Try.prog w' = r
        refine late_skip (w' := w'.setCell ⟨gk, 15, none⟩ (.slice A' (ys ++ [slotN y]).length c')) (by rw [← hr]; go_simp) ⟨rfl, hst⟩
      · have HN := Lib.hid h
        clear h hd
        go_wp2
        go_roundw
        case rel => exact ⟨j + 1, v', HNEXT.out, by rw [← Nat.add_assoc, HQ.out]; go_num, by show PL _ _ _ _ _ _ _ _ _; rw [HST.out]; exact HN.out⟩
        case measure => simp [intOf]; omega
    · have HALL := Lib.hid (slots_all H0.out j hlt)
      obtain ⟨Av, cv, rfl, _⟩ := hP.out.1.shape
      have B2 := hP.out.2.2.2.1
      have BK := hP.out.2.2.1
      have hS := hP.out.1
      have hW := hP.out.2.2.2.2
      clear hP c1 f1 y1
      go_wp2_with (first | ((with_reducible refine wp_ldB ?_ row_sk BK ?_); (focus (refine ⟨rfl, ⟨_, rfl, ?_⟩, rfl⟩; simp [go_sem]; done))) | ((with_reducible refine' wp_stB row_sk B2 _ _); rotate_left; (focus (refine ⟨rfl, ⟨_, _, rfl, ?_, rfl⟩, rfl, rfl, ?_⟩; (focus (simp [go_sem]; done)); (focus (simp [Value.oneCell']; done)))); intro w9 hg9 hb9))
      refine ret_rowG row_sk rfl rfl hb9 rfl rfl ?_
      refine ⟨_, rfl, ?_, bgrown hW hg9 (by omega)⟩
      have h9 := kept_blk hS B2 (by decide) hg9
      have e := HALL.out
      generalize a.slots.take j = zs at *
      subst e
      exact h9
set_option maxHeartbeats 1000000 in
theorem spec_PlainSketch (a : AV) (w : World) : Calls Try.prog 18 #[.agg #[.int .i64 a.f.d, .int .i64 a.f.l, .int .i64 a.f.a, .int .i64 a.f.b, .int .i64 a.o, .int .i64 a.l, .int .i64 a.t, .int .i64 a.on.c, .int .i64 a.on.k, .int .i64 a.on.a, .int .i64 a.on.t, .int .i64 a.ar.c, .int .i64 a.ar.k, .int .i64 a.ar.a, .int .i64 a.ar.t]] w fun e w' => ∃ v, e = .returned (.tuple #[.agg #[Value.int .i64 (if a.ok then a.bare else AV.none).f.d, Value.int .i64 (if a.ok then a.bare else AV.none).f.l, Value.int .i64 (if a.ok then a.bare else AV.none).f.a, Value.int .i64 (if a.ok then a.bare else AV.none).f.b, Value.int .i64 (if a.ok then a.bare else AV.none).o, Value.int .i64 (if a.ok then a.bare else AV.none).l, Value.int .i64 (if a.ok then a.bare else AV.none).t, Value.int .i64 (if a.ok then a.bare else AV.none).on.c, Value.int .i64 (if a.ok then a.bare else AV.none).on.k, Value.int .i64 (if a.ok then a.bare else AV.none).on.a, Value.int .i64 (if a.ok then a.bare else AV.none).on.t, Value.int .i64 (if a.ok then a.bare else AV.none).ar.c, Value.int .i64 (if a.ok then a.bare else AV.none).ar.k, Value.int .i64 (if a.ok then a.bare else AV.none).ar.a, Value.int .i64 (if a.ok then a.bare else AV.none).ar.t, v], .bool a.ok]) ∧ Slots w' w.heap.size v (if a.ok then a.slots else []) ∧ Below w.heap.size w w' := by
  cases h : a.ok
  all_goals
    go_enter Try.func18, Try.ntmps18
    go_upto_region 1 with fail
    obtain ⟨B1, B2⟩ := blk_two w 35 40 #[Value.int .i64 a.f.d, Value.int .i64 a.f.l, Value.int .i64 a.f.a, Value.int .i64 a.f.b, Value.int .i64 a.o, Value.int .i64 a.l, Value.int .i64 a.t, Value.int .i64 a.on.c, Value.int .i64 a.on.k, Value.int .i64 a.on.a, Value.int .i64 a.on.t, Value.int .i64 a.ar.c, Value.int .i64 a.ar.k, Value.int .i64 a.ar.a, Value.int .i64 a.ar.t] #[Value.int .i64 AV.none.f.d, Value.int .i64 AV.none.f.l, Value.int .i64 AV.none.f.a, Value.int .i64 AV.none.f.b, Value.int .i64 AV.none.o, Value.int .i64 AV.none.l, Value.int .i64 AV.none.t, Value.int .i64 AV.none.on.c, Value.int .i64 AV.none.on.k, Value.int .i64 AV.none.on.a, Value.int .i64 AV.none.on.t, Value.int .i64 AV.none.ar.c, Value.int .i64 AV.none.ar.k, Value.int .i64 AV.none.ar.a, Value.int .i64 AV.none.ar.t, .slice none 0 0]
    have hW : Below w.heap.size w ((w.alloc (.cells #[Value.int .i64 a.f.d, Value.int .i64 a.f.l, Value.int .i64 a.f.a, Value.int .i64 a.f.b, Value.int .i64 a.o, Value.int .i64 a.l, Value.int .i64 a.t, Value.int .i64 a.on.c, Value.int .i64 a.on.k, Value.int .i64 a.on.a, Value.int .i64 a.on.t, Value.int .i64 a.ar.c, Value.int .i64 a.ar.k, Value.int .i64 a.ar.a, Value.int .i64 a.ar.t] 35)).alloc (.cells #[Value.int .i64 AV.none.f.d, Value.int .i64 AV.none.f.l, Value.int .i64 AV.none.f.a, Value.int .i64 AV.none.f.b, Value.int .i64 AV.none.o, Value.int .i64 AV.none.l, Value.int .i64 AV.none.t, Value.int .i64 AV.none.on.c, Value.int .i64 AV.none.on.k, Value.int .i64 AV.none.on.a, Value.int .i64 AV.none.on.t, Value.int .i64 AV.none.ar.c, Value.int .i64 AV.none.ar.k, Value.int .i64 AV.none.ar.a, Value.int .i64 AV.none.ar.t, .slice none 0 0] 40)) := (by repeat (first | (with_reducible exact Below.refl _ _) | (with_reducible assumption) | (with_reducible refine balloc ?_ _) | (with_reducible refine bdrew ?_) | (with_reducible refine bdrewN ?_ _) | (with_reducible refine bset ?_ (by first | omega | (simp; done) | (simp; omega)) _) | (with_reducible refine bstep ?_ (by assumption))))
    show Code.wp _ _ _ _ ((w.alloc (.cells #[Value.int .i64 a.f.d, Value.int .i64 a.f.l, Value.int .i64 a.f.a, Value.int .i64 a.f.b, Value.int .i64 a.o, Value.int .i64 a.l, Value.int .i64 a.t, Value.int .i64 a.on.c, Value.int .i64 a.on.k, Value.int .i64 a.on.a, Value.int .i64 a.on.t, Value.int .i64 a.ar.c, Value.int .i64 a.ar.k, Value.int .i64 a.ar.a, Value.int .i64 a.ar.t] 35)).alloc (.cells #[Value.int .i64 AV.none.f.d, Value.int .i64 AV.none.f.l, Value.int .i64 AV.none.f.a, Value.int .i64 AV.none.f.b, Value.int .i64 AV.none.o, Value.int .i64 AV.none.l, Value.int .i64 AV.none.t, Value.int .i64 AV.none.on.c, Value.int .i64 AV.none.on.k, Value.int .i64 AV.none.on.a, Value.int .i64 AV.none.on.t, Value.int .i64 AV.none.ar.c, Value.int .i64 AV.none.ar.k, Value.int .i64 AV.none.ar.a, Value.int .i64 AV.none.ar.t, .slice none 0 0] 40))
    generalize ((w.alloc (.cells #[Value.int .i64 a.f.d, Value.int .i64 a.f.l, Value.int .i64 a.f.a, Value.int .i64 a.f.b, Value.int .i64 a.o, Value.int .i64 a.l, Value.int .i64 a.t, Value.int .i64 a.on.c, Value.int .i64 a.on.k, Value.int .i64 a.on.a, Value.int .i64 a.on.t, Value.int .i64 a.ar.c, Value.int .i64 a.ar.k, Value.int .i64 a.ar.a, Value.int .i64 a.ar.t] 35)).alloc (.cells #[Value.int .i64 AV.none.f.d, Value.int .i64 AV.none.f.l, Value.int .i64 AV.none.f.a, Value.int .i64 AV.none.f.b, Value.int .i64 AV.none.o, Value.int .i64 AV.none.l, Value.int .i64 AV.none.t, Value.int .i64 AV.none.on.c, Value.int .i64 AV.none.on.k, Value.int .i64 AV.none.on.a, Value.int .i64 AV.none.on.t, Value.int .i64 AV.none.ar.c, Value.int .i64 AV.none.ar.k, Value.int .i64 AV.none.ar.a, Value.int .i64 AV.none.ar.t, .slice none 0 0] 40)) = W at *
    have z2 := B2.lt
  · go_wp2_with (first | ((with_reducible refine wp_ldA' ?_ B1 ?_); (focus (refine ⟨rfl, ⟨_, rfl, ?_⟩, rfl⟩; simp [go_sem]; done))) | (go_at_call 35; refine (spec_l5Good a _).mono ?_; rintro e w1 ⟨rfl, hb1⟩; replace B1 := B1.below hb1; replace B2 := B2.below hb1; replace hW := bstep hW hb1; clear hb1) | ((with_reducible refine' wp_stB row_sk B2 _ _); rotate_left; (focus (refine ⟨rfl, ⟨_, _, rfl, ?_, rfl⟩, rfl, rfl, ?_⟩; (focus (simp [go_sem]; done)); (focus (simp [Value.oneCell']; done)))); intro w3 hg3 hb3))
    refine ret_rowG2 row_sk rfl rfl hb3 rfl rfl rfl ?_
    exact ⟨_, rfl, Recs.nil _ _, bgrown hW hg3 (by omega)⟩
  · have h0 := (ok_ord h).1
    go_wp2_with (first
      | ((with_reducible refine wp_ldA' ?_ B1 ?_); (focus (refine ⟨rfl, ⟨_, rfl, ?_⟩, rfl⟩; simp [go_sem]; done)))
      | (go_at_call 35; refine (spec_l5Good a _).mono ?_; rintro e w1 ⟨rfl, hb1⟩; replace B1 := B1.below hb1; replace B2 := B2.below hb1; replace hW := bstep hW hb1; clear hb1)
      | (go_at_call 41; refine (spec_l7Plain a h0 _).mono ?_; rintro e w4 ⟨v, rfl, hv, hb4⟩; obtain ⟨A4, c4, rfl, _⟩ := hv.shape; replace B2 := B2.below hb4; have hv2 := hv.base hW.size; replace hW := bstep hW hb4; clear hb4 hv) | ((with_reducible refine' wp_stB row_sk B2 _ _); rotate_left; (focus (refine ⟨rfl, ⟨_, _, rfl, ?_, rfl⟩, rfl, rfl, ?_⟩; (focus (simp [go_sem]; done)); (focus (simp [Value.oneCell']; done)))); intro w3 hg3 hb3))
    refine ret_rowG2 row_sk rfl rfl hb3 rfl rfl rfl ?_
    exact ⟨_, rfl, kept_blk hv2 B2 (by decide) hg3, bgrown hW hg3 (by omega)⟩
end Go.Proofs.Ytonkblhajbphmaa
