/- The law FnExactResolveSketch answers true at every input, and its arguments read afterwards as they did. Conditions: none. -/
import Derived.Test.YtonkblhajbphmaaRows
import Derived.Test.YtonkblhajbphmaaFrame
import Derived.Test.YtonkblhajbphmaaOpenK
import Derived.Test.YtonkblhajbphmaaResG
namespace Go.Proofs.Ytonkblhajbphmaa.fnExactResolveSketch
open Go.ChangeShapes Go.WideShapes Go.ChangeAt Go.RowKit
open Go.ChangeMaps (open_string shut_string)
set_option linter.unusedVariables false

set_option linter.unusedSimpArgs false
set_option maxRecDepth 100000 in
set_option maxHeartbeats 2000000 in
theorem walk (a0 : AV) (b0 : Option Addr) (len0 cap0 : Nat) (z0 : List SV) (w : World) (m0 : len0 ≤ maxLen) (n0 : z0.length = len0) (s0 : ReadsK w b0 z0) :
    Calls Try.prog 3 #[.agg #[Value.int .i64 a0.f.d, Value.int .i64 a0.f.l, Value.int .i64 a0.f.a, Value.int .i64 a0.f.b, Value.int .i64 a0.o, Value.int .i64 a0.l, Value.int .i64 a0.t, Value.int .i64 a0.on.c, Value.int .i64 a0.on.k, Value.int .i64 a0.on.a, Value.int .i64 a0.on.t, Value.int .i64 a0.ar.c, Value.int .i64 a0.ar.k, Value.int .i64 a0.ar.a, Value.int .i64 a0.ar.t, .slice b0 len0 cap0]] w fun e w' => e = .returned (.bool true) ∧ Below w.heap.size w w' := by
  have HS := Lib.hid (fun w => laws_szSketch a0 b0 len0 cap0 m0 w)
  by_cases hbig : len0 ≤ 1048576
  · have hlx : z0.length ≤ 1048576 := by omega
    rw [if_pos hbig] at HS
    have HX := Lib.hid hlx
    have HN := Lib.hid n0
    have HR := Lib.hid s0
    have HSP := Lib.hid (fun v w B hv => spec_ResolveSketch a0 v z0 w B hv)
    have HIP := Lib.hid (fun v w B hv => impl_ResolveSketch a0 v z0 w B hv)
    generalize resA a0 z0 = rA at *
    generalize resB a0 z0 = rB at *
    have hb0 : ¬ (1048576 - (len0 : Int) < 0) := by omega
    clear hlx n0 s0 m0
    generalize hL : (1048576 - (len0 : Int)) = L at *
    clear hL hbig
    go_enter Try.func3, Try.ntmps3
    go_upto_region 2 with fail
    have B1 := blk_one w 30 #[Value.int .i64 a0.f.d, Value.int .i64 a0.f.l, Value.int .i64 a0.f.a, Value.int .i64 a0.f.b, Value.int .i64 a0.o, Value.int .i64 a0.l, Value.int .i64 a0.t, Value.int .i64 a0.on.c, Value.int .i64 a0.on.k, Value.int .i64 a0.on.a, Value.int .i64 a0.on.t, Value.int .i64 a0.ar.c, Value.int .i64 a0.ar.k, Value.int .i64 a0.ar.a, Value.int .i64 a0.ar.t, .slice b0 len0 cap0]
    have hW : Below w.heap.size w (w.alloc (.cells #[Value.int .i64 a0.f.d, Value.int .i64 a0.f.l, Value.int .i64 a0.f.a, Value.int .i64 a0.f.b, Value.int .i64 a0.o, Value.int .i64 a0.l, Value.int .i64 a0.t, Value.int .i64 a0.on.c, Value.int .i64 a0.on.k, Value.int .i64 a0.on.a, Value.int .i64 a0.on.t, Value.int .i64 a0.ar.c, Value.int .i64 a0.ar.k, Value.int .i64 a0.ar.a, Value.int .i64 a0.ar.t, .slice b0 len0 cap0] 30)) := (by repeat (first | (with_reducible exact Below.refl _ _) | (with_reducible assumption) | (with_reducible refine balloc ?_ _) | (with_reducible refine bdrew ?_) | (with_reducible refine bdrewN ?_ _) | (with_reducible refine bset ?_ (by first | omega | (simp; done) | (simp; omega)) _) | (with_reducible refine bstep ?_ (by assumption))))
    show Code.wp _ _ _ _ (w.alloc (.cells #[Value.int .i64 a0.f.d, Value.int .i64 a0.f.l, Value.int .i64 a0.f.a, Value.int .i64 a0.f.b, Value.int .i64 a0.o, Value.int .i64 a0.l, Value.int .i64 a0.t, Value.int .i64 a0.on.c, Value.int .i64 a0.on.k, Value.int .i64 a0.on.a, Value.int .i64 a0.on.t, Value.int .i64 a0.ar.c, Value.int .i64 a0.ar.k, Value.int .i64 a0.ar.a, Value.int .i64 a0.ar.t, .slice b0 len0 cap0] 30))
    generalize w.alloc (.cells #[Value.int .i64 a0.f.d, Value.int .i64 a0.f.l, Value.int .i64 a0.f.a, Value.int .i64 a0.f.b, Value.int .i64 a0.o, Value.int .i64 a0.l, Value.int .i64 a0.t, Value.int .i64 a0.on.c, Value.int .i64 a0.on.k, Value.int .i64 a0.on.a, Value.int .i64 a0.on.t, Value.int .i64 a0.ar.c, Value.int .i64 a0.ar.k, Value.int .i64 a0.ar.a, Value.int .i64 a0.ar.t, .slice b0 len0 cap0] 30) = W at *
    go_upto_region 5 with (first
      | ((with_reducible refine wp_ldB ?_ row_skL B1 ?_); (focus (refine ⟨rfl, ⟨_, rfl, ?_⟩, rfl⟩; simp [go_sem]; done)))
      | (go_at_call 7; refine (HS.out _).mono ?_; rintro e w1 ⟨rfl, hb1⟩; replace B1 := B1.below hb1; replace hW := bstep hW hb1; clear hb1))
    go_upto_region 6 with (first
      | ((with_reducible refine wp_ldB ?_ row_skL B1 ?_); (focus (refine ⟨rfl, ⟨_, rfl, ?_⟩, rfl⟩; simp [go_sem]; done)))
      | (go_at_call 9; refine (laws_toSketch a0 b0 len0 cap0 z0 HN.out.symm _ (HR.out.below hW) HX.out).mono ?_; rintro e w2 ⟨vs, rfl, hs, hb2⟩; replace B1 := B1.below hb2; replace hW := bstep hW hb2; clear hb2)
      | (go_at_call 8; refine (HSP.out _ _ _ hs).mono ?_; rintro e w3 ⟨rfl, hb3⟩; replace B1 := B1.below hb3; replace hW := bstep hW hb3; clear hb3 hs)
      | ((with_reducible refine' wp_stB row_impl (Blk.new _ _ _) _ _); rotate_left; (focus (refine ⟨rfl, ⟨_, _, rfl, ?_, rfl⟩, rfl, rfl, ?_⟩; (focus (simp [go_sem]; done)); (focus (simp [Value.oneCell']; done)))); intro w31 hg31 B4))
    have z1 := B1.lt
    replace B1 := (B1.alloc _).past hg31 (by omega)
    replace hW := bgrown (balloc hW _) hg31 (by have := hW.size; omega)
    clear hg31 z1
    generalize w3.heap.size = g4 at *
    go_upto_region 7 with (first
      | ((with_reducible refine wp_ldB ?_ row_skL B1 ?_); (focus (refine ⟨rfl, ⟨_, rfl, ?_⟩, rfl⟩; simp [go_sem]; done)))
      | (go_at_call 9; refine (laws_toSketch a0 b0 len0 cap0 z0 HN.out.symm _ (HR.out.below hW) HX.out).mono ?_; rintro e w4 ⟨vx, rfl, hx, hb4⟩; obtain ⟨Ax, cx, rfl, _⟩ := hx.shape; replace B1 := B1.below hb4; replace B4 := B4.below hb4; replace hW := bstep hW hb4; clear hb4)
      | ((with_reducible refine' wp_stB row_sk (Blk.new _ _ _) _ _); rotate_left; (focus (refine ⟨rfl, ⟨_, _, rfl, ?_, rfl⟩, rfl, rfl, ?_⟩; (focus (simp [go_sem]; done)); (focus (simp [Value.oneCell']; done)))); intro w5 hg5 BX))
    have z1 := B1.lt
    have z4 := B4.lt
    replace B1 := (B1.alloc _).past hg5 (by omega)
    replace B4 := (B4.alloc _).past hg5 (by omega)
    replace hx : Slots _ _ _ _ := Recs.kept (v1 := .slice (some ⟨w4.heap.size, 0, none⟩) 0 0) (World.ownsRow.alloc hx _) hg5 (by
      rcases hx.2 with ⟨h1, _⟩ | ⟨g1, _, _, h1, _, h2, _⟩
      · left; rw [h1]; rfl
      · right
        rw [h1]
        have := (Array.getElem?_eq_some_iff.1 h2).1
        simp [Value.ownBlock]; omega)
    replace hW := bgrown (balloc hW _) hg5 (by have := hW.size; omega)
    clear hg5 z1 z4
    generalize w4.heap.size = gx at *
    go_upto_region 8 with (first
      | ((with_reducible refine wp_ldB ?_ row_sk BX ?_); (focus (refine ⟨rfl, ⟨_, rfl, ?_⟩, rfl⟩; simp [go_sem]; done)))
      | (go_at_call 10; refine (HIP.out _ _ _ hx).mono ?_; rintro e w6 ⟨rfl, hb6⟩; replace B1 := B1.below hb6; replace B4 := B4.below hb6; replace BX := BX.below hb6; replace hx := hx.below hb6; replace hW := bstep hW hb6; clear hb6)
      | ((with_reducible refine' wp_stB row_impl (Blk.new _ _ _) _ _); rotate_left; (focus (refine ⟨rfl, ⟨_, _, rfl, ?_, rfl⟩, rfl, rfl, ?_⟩; (focus (simp [go_sem]; done)); (focus (simp [Value.oneCell']; done)))); intro w7 hg7 B7))
    have z1 := B1.lt
    have z4 := B4.lt
    have zx := BX.lt
    replace B1 := (B1.alloc _).past hg7 (by omega)
    replace B4 := (B4.alloc _).past hg7 (by omega)
    replace BX := (BX.alloc _).past hg7 (by omega)
    replace hx : Slots _ _ _ _ := Recs.kept (v1 := .slice (some ⟨w6.heap.size, 0, none⟩) 0 0) (World.ownsRow.alloc hx _) hg7 (by
      rcases hx.2 with ⟨h1, _⟩ | ⟨g1, _, _, h1, _, h2, _⟩
      · left; rw [h1]; rfl
      · right
        rw [h1]
        have := (Array.getElem?_eq_some_iff.1 h2).1
        simp [Value.ownBlock]; omega)
    replace hW := bgrown (balloc hW _) hg7 (by have := hW.size; omega)
    clear hg7 z1 z4 zx
    generalize w6.heap.size = g7 at *
    go_upto_region 10 with (first
      | ((with_reducible refine wp_ldB ?_ row_impl B7 ?_); (focus (refine ⟨rfl, ⟨_, rfl, ?_⟩, rfl⟩; simp [go_sem]; done)))
      | ((with_reducible refine wp_ldB ?_ row_impl B4 ?_); (focus (refine ⟨rfl, ⟨_, rfl, ?_⟩, rfl⟩; simp [go_sem]; done)))
      | (go_at_call 11; refine (laws_eqArms rA _).mono ?_; rintro e w8 ⟨rfl, hb8⟩; replace B1 := B1.below hb8; replace BX := BX.below hb8; replace hx := hx.below hb8; replace hW := bstep hW hb8; clear hb8))
    refine wp_region_mildL (C := fun w' => Below w8.heap.size w8 w') (γ := Value) (U := fun v i => if i = 2 then .agg #[Value.int .i64 a0.f.d, Value.int .i64 a0.f.l, Value.int .i64 a0.f.a, Value.int .i64 a0.f.b, Value.int .i64 a0.o, Value.int .i64 a0.l, Value.int .i64 a0.t, Value.int .i64 a0.on.c, Value.int .i64 a0.on.k, Value.int .i64 a0.on.a, Value.int .i64 a0.on.t, Value.int .i64 a0.ar.c, Value.int .i64 a0.ar.k, Value.int .i64 a0.ar.a, Value.int .i64 a0.ar.t, v] else if i = 3 then .bool true else .bool false) (E := fun L v w' => L 2 = true → ∃ B, Slots w' B v z0)
      [true, true, false, false, false] undef (by kernel_rfl) rfl (by kernel_rfl) ⟨rfl, rfl, rfl, Nat.le_refl _, fun _ _ => rfl⟩ (fun h => by cases h) (fun L g p q h1 hE h2 => ⟨h1.trans (h2.mono h1.size), fun h => (hE h).imp fun _ hI => hI.below h2⟩)
      (fun L L' g p hl hE h => hE (by rw [← hl 2 (by simp [lidxs])]; exact h)) ?_
    refine wpMildL_take rfl ⟨_, mild_load _ _ rfl _ rfl _ _ _ (fun w' h => BX.below h) Try.underlying40 rfl (by kernel_rfl), ?_⟩
    simp only [Act.put, List.setIfInBounds_toArray, List.set_cons_zero, List.set_cons_succ]
    refine wpMildL_take rfl ⟨_, mild_load _ _ rfl _ rfl _ _ _ (fun w' h => B1.below h) Try.underlying30 rfl (by kernel_rfl), ?_⟩
    simp only [Act.put, List.setIfInBounds_toArray, List.set_cons_zero, List.set_cons_succ]
    refine wpMildL_late ?_
    refine wpMildL_late ?_
    refine wpMildL_late ?_
    refine wpMildL_nil ?_
    refine ⟨lateAll_skip (lateAll_skip (lateAll_cons (fun L v W' hC hE hL hdep => ?_) (lateAll_cons (fun L v W' hC hE hL hdep => ?_) (lateAll_cons (fun L v W' hC hE hL hdep => ?_) lateAll_nil)))), fun L v W' hall hC hE => ?_⟩
    all_goals simp only [lateputL, Act.put, List.setIfInBounds_toArray, List.set_cons_zero, List.set_cons_succ]
    · generalize hr : (execOp _ _).run Try.prog W' = r
      refine late_call (w' := W') (f := 9) (args := #[.agg #[Value.int .i64 a0.f.d, Value.int .i64 a0.f.l, Value.int .i64 a0.f.a, Value.int .i64 a0.f.b, Value.int .i64 a0.o, Value.int .i64 a0.l, Value.int .i64 a0.t, Value.int .i64 a0.on.c, Value.int .i64 a0.on.k, Value.int .i64 a0.on.a, Value.int .i64 a0.on.t, Value.int .i64 a0.ar.c, Value.int .i64 a0.ar.k, Value.int .i64 a0.ar.a, Value.int .i64 a0.ar.t, .slice b0 len0 cap0]]) (by rw [← hr]; go_simp) ((laws_toSketch a0 b0 len0 cap0 z0 HN.out.symm _ (HR.out.below (bstep hW hC)) HX.out).mono ?_)
      rintro e w9 ⟨v2, rfl, hv2, hb9⟩
      refine ⟨_, rfl, v2, rfl, fun j hj hLj => ?_, hC.trans (hb9.mono hC.size), fun _ => ⟨_, hv2⟩⟩
      simp only [lidxs, List.mem_cons, List.not_mem_nil, or_false] at hj
      rcases hj with rfl | rfl | rfl
      · rw [hL] at hLj; cases hLj
      · rfl
      · rfl
    · have L2 : L 2 = true := hdep 2 (by kernel_rfl)
      obtain ⟨Bt, ht⟩ := hE L2
      generalize hr : (execOp _ _).run Try.prog W' = r
      refine late_call (w' := W') (f := 12) (args := #[.agg #[Value.int .i64 a0.f.d, Value.int .i64 a0.f.l, Value.int .i64 a0.f.a, Value.int .i64 a0.f.b, Value.int .i64 a0.o, Value.int .i64 a0.l, Value.int .i64 a0.t, Value.int .i64 a0.on.c, Value.int .i64 a0.on.k, Value.int .i64 a0.on.a, Value.int .i64 a0.on.t, Value.int .i64 a0.ar.c, Value.int .i64 a0.ar.k, Value.int .i64 a0.ar.a, Value.int .i64 a0.ar.t, .slice Ax z0.length cx], .agg #[Value.int .i64 a0.f.d, Value.int .i64 a0.f.l, Value.int .i64 a0.f.a, Value.int .i64 a0.f.b, Value.int .i64 a0.o, Value.int .i64 a0.l, Value.int .i64 a0.t, Value.int .i64 a0.on.c, Value.int .i64 a0.on.k, Value.int .i64 a0.on.a, Value.int .i64 a0.on.t, Value.int .i64 a0.ar.c, Value.int .i64 a0.ar.k, Value.int .i64 a0.ar.a, Value.int .i64 a0.ar.t, v]]) (by rw [← hr]; go_simp) ((laws_eqSketch a0 _ _ z0 _ _ _ (hx.below hC) ht).mono ?_)
      rintro e w9 ⟨rfl, hb9⟩
      exact ⟨_, rfl, v, rfl, fun _ _ _ => rfl, hC.trans (hb9.mono hC.size), fun _ => ⟨_, ht.below hb9⟩⟩
    · generalize hr : (execOp _ _).run Try.prog W' = r
      refine late_value (u := .bool false) (w' := W') (by rw [← hr]; go_simp) ⟨v, rfl, fun _ _ _ => rfl, hC, fun h => hE (by simpa using h)⟩
    · have hF := bstep hW hC
      clear hE hall hC
      go_wp2
      go_ret
      exact ⟨rfl, hF⟩
  · rw [if_neg hbig] at HS
    clear n0 s0 m0 hbig
    go_enter Try.func3, Try.ntmps3
    go_upto_region 2 with fail
    have B1 := blk_one w 30 #[Value.int .i64 a0.f.d, Value.int .i64 a0.f.l, Value.int .i64 a0.f.a, Value.int .i64 a0.f.b, Value.int .i64 a0.o, Value.int .i64 a0.l, Value.int .i64 a0.t, Value.int .i64 a0.on.c, Value.int .i64 a0.on.k, Value.int .i64 a0.on.a, Value.int .i64 a0.on.t, Value.int .i64 a0.ar.c, Value.int .i64 a0.ar.k, Value.int .i64 a0.ar.a, Value.int .i64 a0.ar.t, .slice b0 len0 cap0]
    have hW : Below w.heap.size w (w.alloc (.cells #[Value.int .i64 a0.f.d, Value.int .i64 a0.f.l, Value.int .i64 a0.f.a, Value.int .i64 a0.f.b, Value.int .i64 a0.o, Value.int .i64 a0.l, Value.int .i64 a0.t, Value.int .i64 a0.on.c, Value.int .i64 a0.on.k, Value.int .i64 a0.on.a, Value.int .i64 a0.on.t, Value.int .i64 a0.ar.c, Value.int .i64 a0.ar.k, Value.int .i64 a0.ar.a, Value.int .i64 a0.ar.t, .slice b0 len0 cap0] 30)) := (by repeat (first | (with_reducible exact Below.refl _ _) | (with_reducible assumption) | (with_reducible refine balloc ?_ _) | (with_reducible refine bdrew ?_) | (with_reducible refine bdrewN ?_ _) | (with_reducible refine bset ?_ (by first | omega | (simp; done) | (simp; omega)) _) | (with_reducible refine bstep ?_ (by assumption))))
    show Code.wp _ _ _ _ (w.alloc (.cells #[Value.int .i64 a0.f.d, Value.int .i64 a0.f.l, Value.int .i64 a0.f.a, Value.int .i64 a0.f.b, Value.int .i64 a0.o, Value.int .i64 a0.l, Value.int .i64 a0.t, Value.int .i64 a0.on.c, Value.int .i64 a0.on.k, Value.int .i64 a0.on.a, Value.int .i64 a0.on.t, Value.int .i64 a0.ar.c, Value.int .i64 a0.ar.k, Value.int .i64 a0.ar.a, Value.int .i64 a0.ar.t, .slice b0 len0 cap0] 30))
    generalize w.alloc (.cells #[Value.int .i64 a0.f.d, Value.int .i64 a0.f.l, Value.int .i64 a0.f.a, Value.int .i64 a0.f.b, Value.int .i64 a0.o, Value.int .i64 a0.l, Value.int .i64 a0.t, Value.int .i64 a0.on.c, Value.int .i64 a0.on.k, Value.int .i64 a0.on.a, Value.int .i64 a0.on.t, Value.int .i64 a0.ar.c, Value.int .i64 a0.ar.k, Value.int .i64 a0.ar.a, Value.int .i64 a0.ar.t, .slice b0 len0 cap0] 30) = W at *
    go_wp2_with (first
      | ((with_reducible refine wp_ldB ?_ row_skL B1 ?_); (focus (refine ⟨rfl, ⟨_, rfl, ?_⟩, rfl⟩; simp [go_sem]; done)))
      | (go_at_call 7; refine (HS.out _).mono ?_; rintro e w1 ⟨rfl, hb1⟩; replace B1 := B1.below hb1; replace hW := bstep hW hb1; clear hb1))
    go_ret
    exact ⟨rfl, hW⟩

set_option maxRecDepth 100000 in
theorem lifted (os : Os) (started : os.Started) (H : Type) (enc : TypeId × Value → H) :
    ReturnsInHanded {} Try.checked os 3 .any (Rows.fnExactResolveSketchSpec.pre6 enc Try.prog Try.f3 Rows.fnExactResolveSketchRow.domain false) (Rows.fnExactResolveSketchSpec.post enc Try.prog Try.f3 false true false false) := by
  refine returnsInHanded_of_change (C := Try.checked) own started (by kernel_rfl) Try.func3
    (ChangeSpec.witness6 (enc := enc) (C := Try.checked) false ⟨#[], #[.agg #[.int .i64 0, .int .i64 0, .int .i64 0, .int .i64 0, .int .i64 0, .int .i64 0, .int .i64 0, .int .i64 0, .int .i64 0, .int .i64 0, .int .i64 0, .int .i64 0, .int .i64 0, .int .i64 0, .int .i64 0, .slice none 0 0]], []⟩ 8 (by kernel_rfl) (by kernel_rfl) (by kernel_rfl) (by kernel_rfl)) ?_
  intro W base args ds gs before hval0 hW hcnd _
  have hval : ∀ (j : Nat) t v, Try.f3.params[j]? = some t → args[j]? = some v → Value.okWide Try.prog W .any base t v := hval0
  have hW' := hW
  obtain ⟨p, q, hA0, hV, rfl, hfz, hnd⟩ := hW
  have hA : DataW.TrodAll enc Try.prog W 0 (fun _ => true) true Try.f3.params.toList args.toList ds p := hA0
  rw [Try.params3] at hA hval
  obtain ⟨v0, vs0, d0, ds0, p0, q0, hargs, rfl, rfl, h0, r0⟩ := trodAll_cons hA
  obtain ⟨rfl, rfl, rfl⟩ := trodAll_nil r0
  obtain rfl : args = #[v0] := by cases args; simp_all
  obtain ⟨rfl, rfl⟩ := trodVars_none hV
  have k0 := h0
  have lt0 : ∀ x ∈ p0, x.block < W.heap.size := by obtain ⟨m, hm⟩ := k0; exact DataW.trod_lt m _ _ _ hm
  obtain ⟨a0, b0, len0, cap0, z0, rfl, m0, n0, s0⟩ := open_sketch (hval 0 30 v0 rfl rfl) h0
  clear hA0 hval0
  refine (walk a0 b0 len0 cap0 z0 W m0 n0 s0).mono fun e W' ⟨he, bel⟩ => ?_
  subst he
  exact ⟨_, rfl, _, _, _, [], _, [], hW', trodAll_mk1 (shut_bool Try.underlying4 _), (trodAll_cons_mk (Below.trod laidOut (by kernel_rfl) (of_decide_eq_true (by kernel_rfl)) k0 bel lt0) trodAll_mk0), rfl, bel.frame _, fun h => by cases h⟩

theorem over : Rows.fnExactResolveSketchRow.holds Try.pinned (OpenSpec.ofChange Rows.fnExactResolveSketchSpec) :=
  OpenClaim.holds_of_wide 3 Try.f3 rfl rfl rfl rfl rfl rfl rfl ⟨rfl, rfl, rfl, rfl, rfl⟩ rfl rfl rfl rfl rfl (by kernel_rfl) Try.func3 (by kernel_rfl)
    (of_decide_eq_true (by kernel_rfl)) (by unfold Func.isWrapper; first | (rw [if_pos (by decide +kernel)]; kernel_rfl) | (rw [if_neg (by decide +kernel)]; exact ⟨rfl, rfl⟩))
    (fun os started H enc _ => lifted os started H enc)

/-- The statement. -/
theorem proved : Rows.FnExactResolveSketchSaid := over
#print axioms proved
end Go.Proofs.Ytonkblhajbphmaa.fnExactResolveSketch
