/- The law FnExactPlainSketch answers true at every input, and its arguments read afterwards as they did. Conditions: none. -/
import Derived.Test.YtonkblhajbphmaaRows
import Derived.Test.YtonkblhajbphmaaFrame
import Derived.Test.YtonkblhajbphmaaSkD
namespace Go.Proofs.Ytonkblhajbphmaa.fnExactPlainSketch
open Go.ChangeShapes Go.WideShapes Go.ChangeAt Go.RowKit
open Go.ChangeMaps (open_string shut_string)
set_option linter.unusedVariables false

set_option linter.unusedSimpArgs false
theorem alloc_kept {w w' : World} {B size n : Nat} {e : TypeId} {v : Value} {xs : List Value} {o : Obj} (h : w.ownsRow B e size v n xs) (hg : (w.alloc o).grownBy w' (some w.heap.size)) : w'.ownsRow B e size v n xs := by
  refine World.ownsRow.kept (World.ownsRow.alloc h o) hg ?_
  cases hv : v.ownBlock with
  | none => exact .inl rfl
  | some k =>
    have := (h.lt k hv).2
    exact .inr fun e => by injection e with e; omega
set_option maxRecDepth 100000 in
set_option maxHeartbeats 4000000 in
theorem walk (a0 : AV) (w : World) :
    Calls Try.prog 5 #[.agg #[.int .i64 a0.f.d, .int .i64 a0.f.l, .int .i64 a0.f.a, .int .i64 a0.f.b, .int .i64 a0.o, .int .i64 a0.l, .int .i64 a0.t, .int .i64 a0.on.c, .int .i64 a0.on.k, .int .i64 a0.on.a, .int .i64 a0.on.t, .int .i64 a0.ar.c, .int .i64 a0.ar.k, .int .i64 a0.ar.a, .int .i64 a0.ar.t]] w fun e w' => e = .returned (.bool true) ∧ Below w.heap.size w w' := by
  have HSP := Lib.hid (fun w => spec_PlainSketch a0 w)
  have HIP := Lib.hid (fun w => impl_PlainSketch a0 w)
  have HL : Hid ((if a0.ok then a0.slots else []).length ≤ 3) := by
    show _ ≤ _
    have := slots_len a0
    split
    · exact this
    · simp
  generalize (if a0.ok then a0.bare else AV.none) = b at *
  generalize (if a0.ok then a0.slots else []) = ss at *
  generalize a0.ok = k at *
  go_enter Try.func5, Try.ntmps5
  go_upto_region 1 with fail
  have B0 := blk_one w 27 #[Value.int .i64 a0.f.d, Value.int .i64 a0.f.l, Value.int .i64 a0.f.a, Value.int .i64 a0.f.b, Value.int .i64 a0.o, Value.int .i64 a0.l, Value.int .i64 a0.t, Value.int .i64 a0.on.c, Value.int .i64 a0.on.k, Value.int .i64 a0.on.a, Value.int .i64 a0.on.t, Value.int .i64 a0.ar.c, Value.int .i64 a0.ar.k, Value.int .i64 a0.ar.a, Value.int .i64 a0.ar.t]
  have hW : Below w.heap.size w (w.alloc (.cells #[Value.int .i64 a0.f.d, Value.int .i64 a0.f.l, Value.int .i64 a0.f.a, Value.int .i64 a0.f.b, Value.int .i64 a0.o, Value.int .i64 a0.l, Value.int .i64 a0.t, Value.int .i64 a0.on.c, Value.int .i64 a0.on.k, Value.int .i64 a0.on.a, Value.int .i64 a0.on.t, Value.int .i64 a0.ar.c, Value.int .i64 a0.ar.k, Value.int .i64 a0.ar.a, Value.int .i64 a0.ar.t] 27)) := (by repeat (first | (with_reducible exact Below.refl _ _) | (with_reducible assumption) | (with_reducible refine balloc ?_ _) | (with_reducible refine bdrew ?_) | (with_reducible refine bdrewN ?_ _) | (with_reducible refine bset ?_ (by first | omega | (simp; done) | (simp; omega)) _) | (with_reducible refine bstep ?_ (by assumption))))
  show Code.wp _ _ _ _ (w.alloc (.cells #[Value.int .i64 a0.f.d, Value.int .i64 a0.f.l, Value.int .i64 a0.f.a, Value.int .i64 a0.f.b, Value.int .i64 a0.o, Value.int .i64 a0.l, Value.int .i64 a0.t, Value.int .i64 a0.on.c, Value.int .i64 a0.on.k, Value.int .i64 a0.on.a, Value.int .i64 a0.on.t, Value.int .i64 a0.ar.c, Value.int .i64 a0.ar.k, Value.int .i64 a0.ar.a, Value.int .i64 a0.ar.t] 27))
  generalize (w.alloc (.cells #[Value.int .i64 a0.f.d, Value.int .i64 a0.f.l, Value.int .i64 a0.f.a, Value.int .i64 a0.f.b, Value.int .i64 a0.o, Value.int .i64 a0.l, Value.int .i64 a0.t, Value.int .i64 a0.on.c, Value.int .i64 a0.on.k, Value.int .i64 a0.on.a, Value.int .i64 a0.on.t, Value.int .i64 a0.ar.c, Value.int .i64 a0.ar.k, Value.int .i64 a0.ar.a, Value.int .i64 a0.ar.t] 27)) = W at *
  go_upto_region 2 with (first
    | ((with_reducible refine wp_ldB ?_ row_laws B0 ?_); (focus (refine ⟨rfl, ⟨_, rfl, ?_⟩, rfl⟩; simp [go_sem]; done)))
    | (go_at_call 19; refine (laws_toArms a0 _).mono ?_; rintro e w1 ⟨rfl, hb1⟩; replace B0 := B0.below hb1; replace hW := bstep hW hb1; clear hb1)
    | (go_at_call 18; refine (HSP.out _).mono ?_; rintro e w2 ⟨v0, rfl, hv0, hb2⟩; obtain ⟨A0, c0, rfl, _⟩ := hv0.shape; replace B0 := B0.below hb2; replace hW := bstep hW hb2; clear hb2)
    | ((with_reducible refine' wp_stB row_sk (Blk.new _ _ _) _ _); rotate_left; (focus (refine ⟨rfl, ⟨_, _, rfl, ?_, rfl⟩, rfl, rfl, ?_⟩; (focus (simp [go_sem]; done)); (focus (simp [Value.oneCell']; done)))); intro w3 hg3 B3))
  have y0 := B0.lt
  replace B0 := (B0.alloc _).past hg3 (by omega)
  replace hv0 : Slots _ _ _ ss := alloc_kept hv0 hg3
  replace hW := bgrown (balloc hW _) hg3 (by have := hW.size; omega)
  generalize w2.heap.size = g3 at *
  clear hg3 y0
  go_upto_region 3 with (first
    | ((with_reducible refine wp_ldB ?_ row_laws B0 ?_); (focus (refine ⟨rfl, ⟨_, rfl, ?_⟩, rfl⟩; simp [go_sem]; done)))
    | (go_at_call 19; refine (laws_toArms a0 _).mono ?_; rintro e w4 ⟨rfl, hb4⟩; replace B0 := B0.below hb4; replace B3 := B3.below hb4; replace hv0 := hv0.below hb4; replace hW := bstep hW hb4; clear hb4)
    | (go_at_call 20; refine (HIP.out _).mono ?_; rintro e w5 ⟨vg, rfl, hvg, hb5⟩; obtain ⟨Ag, cg, rfl, _⟩ := hvg.shape; have hap := own_apart hv0 hvg (Nat.le_refl _); have hBg := hW.size; replace B0 := B0.below hb5; replace B3 := B3.below hb5; replace hv0 := hv0.below hb5; replace hW := bstep hW hb5; clear hb5)
    | ((with_reducible refine' wp_stB row_sk (Blk.new _ _ _) _ _); rotate_left; (focus (refine ⟨rfl, ⟨_, _, rfl, ?_, rfl⟩, rfl, rfl, ?_⟩; (focus (simp [go_sem]; done)); (focus (simp [Value.oneCell']; done)))); intro w6 hg6 B5))
  have y0 := B0.lt
  have y3 := B3.lt
  replace B0 := (B0.alloc _).past hg6 (by omega)
  replace B3 := (B3.alloc _).past hg6 (by omega)
  replace hv0 : Slots _ _ _ ss := alloc_kept hv0 hg6
  replace hvg : Slots _ _ _ ss := alloc_kept hvg hg6
  replace hW := bgrown (balloc hW _) hg6 (by have := hW.size; omega)
  generalize w5.heap.size = g5 at *
  clear hg6 y0 y3
  go_upto_region 6 with (first
    | ((with_reducible refine wp_ldB ?_ row_sk B5 ?_); (focus (refine ⟨rfl, ⟨_, rfl, ?_⟩, rfl⟩; simp [go_sem]; done)))
    | ((with_reducible refine wp_ldB ?_ row_sk B3 ?_); (focus (refine ⟨rfl, ⟨_, rfl, ?_⟩, rfl⟩; simp [go_sem]; done)))
    | (go_at_call 12; refine (laws_eqSketch b _ _ ss _ _ _ hvg hv0).mono ?_; rintro e w7 ⟨rfl, hb7⟩; replace B0 := B0.below hb7; replace B3 := B3.below hb7; replace B5 := B5.below hb7; replace hv0 := hv0.below hb7; replace hvg := hvg.below hb7; replace hW := bstep hW hb7; clear hb7))
  go_upto_region 7 with (first
    | ((with_reducible refine wp_ldB ?_ row_sk B5 ?_); (focus (refine ⟨rfl, ⟨_, rfl, ?_⟩, rfl⟩; simp [go_sem]; done)))
    | (go_at_call 21; refine (laws_markSketch b _ ss 1 _ _ hvg (by omega) (by omega) (by have := HL.out; omega)).mono ?_; rintro e w8 ⟨rfl, hm8, hg8⟩))
  replace B0 := B0.grown hg8 (own_blk_ne hvg B0 (by decide))
  replace B3 := B3.grown hg8 (own_blk_ne hvg B3 (by decide))
  replace B5 := B5.grown hg8 (own_blk_ne hvg B5 (by decide))
  replace hv0 : Slots _ _ _ ss := World.ownsRow.kept hv0 hg8 hap
  replace hW := below_own hW hvg hBg hg8
  clear hg8 hvg
  go_upto_region 13 with (first
    | ((with_reducible refine wp_ldB ?_ row_sk B5 ?_); (focus (refine ⟨rfl, ⟨_, rfl, ?_⟩, rfl⟩; simp [go_sem]; done)))
    | (go_at_call 22; refine (laws_heldSketch b _ ss.length 1 _ _ hm8 (by omega) (by omega) (by have := HL.out; omega)).mono ?_; rintro e w9 ⟨rfl, hb9⟩; replace B0 := B0.below hb9; replace B3 := B3.below hb9; replace B5 := B5.below hb9; replace hv0 := hv0.below hb9; replace hm8 := hm8.below hb9; replace hW := bstep hW hb9; clear hb9))
  go_upto_region 14 with (first
    | ((with_reducible refine wp_ldB ?_ row_laws B0 ?_); (focus (refine ⟨rfl, ⟨_, rfl, ?_⟩, rfl⟩; simp [go_sem]; done)))
    | (go_at_call 19; refine (laws_toArms a0 _).mono ?_; rintro e w10 ⟨rfl, hb10⟩; replace B0 := B0.below hb10; replace B3 := B3.below hb10; replace B5 := B5.below hb10; replace hv0 := hv0.below hb10; replace hm8 := hm8.below hb10; replace hW := bstep hW hb10; clear hb10)
    | (go_at_call 20; refine (HIP.out _).mono ?_; rintro e w11 ⟨vh, rfl, hvh, hb11⟩; obtain ⟨Ah, ch, rfl, _⟩ := hvh.shape; replace B0 := B0.below hb11; replace B3 := B3.below hb11; replace B5 := B5.below hb11; replace hv0 := hv0.below hb11; replace hm8 := hm8.below hb11; replace hW := bstep hW hb11; clear hb11)
    | ((with_reducible refine' wp_stB row_sk (Blk.new _ _ _) _ _); rotate_left; (focus (refine ⟨rfl, ⟨_, _, rfl, ?_, rfl⟩, rfl, rfl, ?_⟩; (focus (simp [go_sem]; done)); (focus (simp [Value.oneCell']; done)))); intro w12 hg12 B9))
  have y0 := B0.lt
  have y3 := B3.lt
  have y5 := B5.lt
  replace B3 := (B3.alloc _).past hg12 (by omega)
  replace B5 := (B5.alloc _).past hg12 (by omega)
  replace hv0 : Slots _ _ _ ss := alloc_kept hv0 hg12
  replace hm8 : Slots _ _ _ (smarks 1 ss.length) := alloc_kept hm8 hg12
  replace hvh : Slots _ _ _ ss := alloc_kept hvh hg12
  replace hW := bgrown (balloc hW _) hg12 (by have := hW.size; omega)
  generalize w11.heap.size = g9 at *
  clear hg12 y0 y3 y5 B0
  go_wp2_with (first
    | ((with_reducible refine wp_ldB ?_ row_sk B9 ?_); (focus (refine ⟨rfl, ⟨_, rfl, ?_⟩, rfl⟩; simp [go_sem]; done)))
    | ((with_reducible refine wp_ldB ?_ row_sk B3 ?_); (focus (refine ⟨rfl, ⟨_, rfl, ?_⟩, rfl⟩; simp [go_sem]; done)))
    | ((with_reducible refine wp_ldB ?_ row_sk B5 ?_); (focus (refine ⟨rfl, ⟨_, rfl, ?_⟩, rfl⟩; simp [go_sem]; done)))
    | (go_at_call 12; refine (laws_eqSketch b _ _ ss _ _ _ hvh hv0).mono ?_; rintro e w13 ⟨rfl, hb13⟩; replace B5 := B5.below hb13; replace hm8 := hm8.below hb13; replace hW := bstep hW hb13; clear hb13 B9 B3)
    | (go_at_call 22; refine (laws_heldSketch b _ ss.length 1 _ _ hm8 (by omega) (by omega) (by have := HL.out; omega)).mono ?_; rintro e w14 ⟨rfl, hb14⟩; replace hW := bstep hW hb14; clear hb14 B5))
  go_ret
  exact ⟨rfl, hW⟩

set_option maxRecDepth 100000 in
theorem lifted (os : Os) (started : os.Started) (H : Type) (enc : TypeId × Value → H) :
    ReturnsInHanded {} Try.checked os 5 .any (Rows.fnExactPlainSketchSpec.pre6 enc Try.prog Try.f5 Rows.fnExactPlainSketchRow.domain false) (Rows.fnExactPlainSketchSpec.post enc Try.prog Try.f5 false true false false) := by
  refine returnsInHanded_of_change (C := Try.checked) own started (by kernel_rfl) Try.func5
    (ChangeSpec.witness6 (enc := enc) (C := Try.checked) false ⟨#[], #[.agg #[.int .i64 0, .int .i64 0, .int .i64 0, .int .i64 0, .int .i64 0, .int .i64 0, .int .i64 0, .int .i64 0, .int .i64 0, .int .i64 0, .int .i64 0, .int .i64 0, .int .i64 0, .int .i64 0, .int .i64 0]], []⟩ 8 (by kernel_rfl) (by kernel_rfl) (by kernel_rfl) (by kernel_rfl)) ?_
  intro W base args ds gs before hval0 hW hcnd _
  have hval : ∀ (j : Nat) t v, Try.f5.params[j]? = some t → args[j]? = some v → Value.okWide Try.prog W .any base t v := hval0
  have hW' := hW
  obtain ⟨p, q, hA0, hV, rfl, hfz, hnd⟩ := hW
  have hA : DataW.TrodAll enc Try.prog W 0 (fun _ => true) true Try.f5.params.toList args.toList ds p := hA0
  rw [Try.params5] at hA hval
  obtain ⟨v0, vs0, d0, ds0, p0, q0, hargs, rfl, rfl, h0, r0⟩ := trodAll_cons hA
  obtain ⟨rfl, rfl, rfl⟩ := trodAll_nil r0
  obtain rfl : args = #[v0] := by cases args; simp_all
  obtain ⟨rfl, rfl⟩ := trodVars_none hV
  have k0 := h0
  have lt0 : ∀ x ∈ p0, x.block < W.heap.size := by obtain ⟨m, hm⟩ := k0; exact DataW.trod_lt m _ _ _ hm
  obtain ⟨a0_0, a0_1, a0_2, a0_3, a0_4, a0_5, a0_6, a0_7, a0_8, a0_9, a0_10, a0_11, a0_12, a0_13, a0_14, rfl⟩ := open_arms Try.underlying27 Try.underlying23 Try.underlying25 Try.underlying3 (by kernel_rfl) (by kernel_rfl) (by kernel_rfl) (by kernel_rfl) rfl rfl rfl rfl rfl rfl (hval 0 27 v0 rfl rfl) h0
  clear hA0 hval0
  refine (walk (⟨⟨a0_0, a0_1, a0_2, a0_3⟩, a0_4, a0_5, a0_6, ⟨a0_7, a0_8, a0_9, a0_10⟩, ⟨a0_11, a0_12, a0_13, a0_14⟩⟩ : AV) W).mono fun e W' ⟨he, bel⟩ => ?_
  subst he
  exact ⟨_, rfl, _, _, _, [], _, [], hW', trodAll_mk1 (shut_bool Try.underlying4 _), (trodAll_cons_mk (Below.trod laidOut (by kernel_rfl) (of_decide_eq_true (by kernel_rfl)) k0 bel lt0) trodAll_mk0), rfl, bel.frame _, fun h => by cases h⟩

theorem over : Rows.fnExactPlainSketchRow.holds Try.pinned (OpenSpec.ofChange Rows.fnExactPlainSketchSpec) :=
  OpenClaim.holds_of_wide 5 Try.f5 rfl rfl rfl rfl rfl rfl rfl ⟨rfl, rfl, rfl, rfl, rfl⟩ rfl rfl rfl rfl rfl (by kernel_rfl) Try.func5 (by kernel_rfl)
    (of_decide_eq_true (by kernel_rfl)) (by unfold Func.isWrapper; first | (rw [if_pos (by decide +kernel)]; kernel_rfl) | (rw [if_neg (by decide +kernel)]; exact ⟨rfl, rfl⟩))
    (fun os started H enc _ => lifted os started H enc)

/-- The statement. -/
theorem proved : Rows.FnExactPlainSketchSaid := over
#print axioms proved
end Go.Proofs.Ytonkblhajbphmaa.fnExactPlainSketch
